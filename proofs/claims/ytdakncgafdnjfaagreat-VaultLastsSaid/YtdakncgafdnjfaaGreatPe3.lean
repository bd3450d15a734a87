/- 3: a part of this claim's texts, joined: W5 OctetB RowRegress RowBase W6 PlainVault W7 W8. -/
import Derived.Test.YtdakncgafdnjfaaGreatPe2
import Derived.Test.YtdakncgafdnjfaaGreatRows
import Derived.RecoverIn
import Derived.OpenShut
import Derived.Lib.AppendZerosOnto
import Derived.Lib.Overlaps
namespace Go.Wk
open Go Go.Deep Go.ChangeShapes Go.WideShapes Go.ChangeAt Go.RowKit
section
variable {H : Type} {enc : TypeId × Value → H} {P : Program} {w : World} {base : Nat} {spare : Nat → Bool} {held : Bool} {L : TypeId}
end
theorem LsIn.stable {w : World} {p : Option Addr} {i : Nat} {ts : List LTerm} (h : LsIn w p i ts) : Stable (fun _ => False) w (LsF p i ts) := fun w' hw' => LsIn.mono (fun _ _ hc => cell_agree hw' hc) ts h
section
variable {w0 : World} {M0 : Nat → Prop} {ds : List Deferred} {a : Act} {w : World} {l : List Value} {bs : List Item} {fs : List (World → Prop)}
theorem St.cutRow {bs' : List Item} {e : TypeId} {sz c : Nat} {xs : List Value} (S : St w0 M0 ds a w l bs fs) (p : Option Addr) (m n : Nat) [hr : HasRow bs p n e sz c xs] [hrep : ReplI bs (Wk.row e sz p n c xs) (Wk.row e sz p m c (xs.take (m * sz))) bs'] (hle : m ≤ n) : St w0 M0 ds a w l bs' fs := by
  have hrow := S.row p n
  have hown : w.ownsRow 0 e sz (.slice p m c) m (xs.take (m * sz)) := by
    refine ⟨by rw [List.length_take, hrow.1, Nat.min_eq_left (Nat.mul_le_mul_right _ hle)], ?_⟩
    rcases hrow.2 with ⟨hv, rfl⟩ | ⟨g, cap, cur, hv, hb, hg, hnc, hcm, hcs, ht⟩
    · cases hv
      exact .inl ⟨by rw [show m = 0 from by omega], by omega⟩
    · cases hv
      exact .inr ⟨g, c, cur, rfl, hb, hg, by omega, hcm, hcs, by rw [← ht, List.take_take, Nat.min_eq_left (Nat.mul_le_mul_right _ hle)]⟩
  exact S.reput (x := Wk.row e sz p n c xs) (y := Wk.row e sz p m c (xs.take (m * sz))) S.slots S.defers rfl (Agree.refl _ _) hown (fun k h => .inl h) (row_foot_lt hown) (row_loc _ _ _ _ _ _)
theorem own_le {w : World} {e : TypeId} {sz : Nat} {p : Option Addr} {n c : Nat} {xs : List Value} (h : w.ownsRow 0 e sz (.slice p n c) n xs) : n ≤ c := by
  rcases h.2 with ⟨hv, h0⟩ | ⟨g, cap, cur, hv, hb, hg, hnc, hcm, hcs, ht⟩
  · omega
  · cases hv; exact hnc
end
def AllL (L : List LTerm) : World → Prop := fun w => ∀ x ∈ L, LtIn w x
theorem AllL.stable {M : Nat → Prop} {w : World} {L : List LTerm} (h : ∀ x ∈ L, Stable M w (LtF x)) : Stable M w (AllL L) := fun w' hw x hx => h x hx w' hw
theorem AllL.get {M : Nat → Prop} {w : World} {L : List LTerm} (h : Stable M w (AllL L)) {x : LTerm} (hx : x ∈ L) : Stable M w (LtF x) := fun w' hw => h w' hw x hx
def nthI (ys : List Int) (k : Nat) : Int := ys.getD k 0
theorem nthI_get {ys : List Int} {k : Nat} (h : k < ys.length) : ys[k]? = some (nthI ys k) := by simp [nthI, h]
theorem SlF.take {p : Option Addr} {ys : List Int} (m : Nat) {w : World} (h : SlF p (encL ys) w) : SlF p (encL (ys.take m)) w := by
  rw [← encL_take ys m]
  refine ⟨fun hp => by rw [h.1 hp]; simp, fun ad hp j u hj => h.2 ad hp j u ?_⟩
  rw [List.getElem?_take] at hj
  split at hj
  · exact hj
  · cases hj
theorem SlF.nil {p : Option Addr} {w : World} : SlF p [] w := ⟨fun _ => rfl, fun _ _ j u hj => by simp at hj⟩
section
variable {P : Program} {l lc : Cx} {bs : List Item} {fs : List (World → Prop)} {x y : Operand} {p : Option Addr} {n c k : Nat} {kk : IntKind} {m : Int} {ys : List Int} {t ty e : TypeId} {z : Value} {by_ : Nat}
end
end Go.Wk
namespace Go.Wk
open Go Go.Deep Go.ChangeShapes Go.WideShapes Go.ChangeAt Go.RowKit
class Lay (α : Type) extends Enc α where
  dflt : α
  inn : World → α → Prop
  mono : ∀ (w w' : World) (x : α), (∀ ad v, w.cell? ad = some v → w'.cell? ad = some v) → inn w x → inn w' x
instance layI : Lay Int := { encI with dflt := 0, inn := fun _ _ => True, mono := fun _ _ _ _ h => h }
instance layS : Lay (List UInt8) := { encS with dflt := [], inn := fun _ _ => True, mono := fun _ _ _ _ h => h }
instance layT : Lay LTerm := { encT with dflt := zeroL, inn := LtIn, mono := fun _ _ x h hx => LtIn.mono h x hx }
instance encBo : Enc Bool := ⟨1, fun b => [.bool b], fun _ => rfl, fun x u hu => by obtain rfl := List.mem_singleton.1 hu; rfl⟩
instance layBo : Lay Bool := { encBo with dflt := false, inn := fun _ _ => True, mono := fun _ _ _ _ h => h }
instance layB : Lay UInt8 := { encB with dflt := 0, inn := fun _ _ => True, mono := fun _ _ _ _ h => h }
def InF {α : Type} [Lay α] (x : α) : World → Prop := fun w => Lay.inn w x
def GlF {α : Type} [Lay α] (p : Option Addr) (xs : List α) : World → Prop := fun w => SlF p (encL xs) w ∧ ∀ x ∈ xs, Lay.inn w x
def nthG {α : Type} [Lay α] (xs : List α) (k : Nat) : α := xs.getD k Lay.dflt
theorem nthG_get {α : Type} [Lay α] {xs : List α} {k : Nat} (h : k < xs.length) : xs[k]? = some (nthG xs k) := by simp [nthG, h]
theorem nthG_mem {α : Type} [Lay α] {xs : List α} {k : Nat} (h : k < xs.length) : nthG xs k ∈ xs := List.mem_of_getElem? (nthG_get h)
theorem nthG_drop {α : Type} [Lay α] {xs : List α} {k : Nat} (h : k < xs.length) : xs.drop k = nthG xs k :: xs.drop (k + 1) := by
  rw [List.drop_eq_getElem_cons h]
  congr 1
  simp [nthG, h]
def gAddr (p : Option Addr) (k sz off : Nat) : Addr := (p.getD ⟨0, 0, none⟩).add (k * sz + off)
structure Sl (α : Type) where
  p : Option Addr
  cap : Nat
  xs : List α
abbrev Sl.v {α : Type} (s : Sl α) : Value := .slice s.p s.xs.length s.cap
instance encSl {α : Type} : Enc (Sl α) := ⟨1, fun s => [s.v], fun _ => rfl, fun x u hu => by obtain rfl := List.mem_singleton.1 hu; rfl⟩
theorem SlF.mono {p : Option Addr} {xs : List Value} {w w' : World} (h : ∀ ad v, w.cell? ad = some v → w'.cell? ad = some v) (hs : SlF p xs w) : SlF p xs w' := ⟨hs.1, fun ad hp j u hj => h _ _ (hs.2 ad hp j u hj)⟩
theorem GlF.mono {α : Type} [Lay α] {p : Option Addr} {xs : List α} {w w' : World} (h : ∀ ad v, w.cell? ad = some v → w'.cell? ad = some v) (hs : GlF p xs w) : GlF p xs w' := ⟨hs.1.mono h, fun x hx => Lay.mono w w' x h (hs.2 x hx)⟩
instance laySl {α : Type} [Lay α] : Lay (Sl α) := { encSl with
  dflt := ⟨none, 0, []⟩
  inn := fun w s => s.xs.length ≤ s.cap ∧ s.cap ≤ maxLen ∧ GlF s.p s.xs w
  mono := fun _ _ _ h hx => ⟨hx.1, hx.2.1, hx.2.2.mono h⟩ }
theorem InF.stable {α : Type} [Lay α] {w : World} {x : α} (h : Lay.inn w x) : Stable (fun _ => False) w (InF x) := fun w' hw' => Lay.mono w w' x (fun _ _ hc => cell_agree hw' hc) h
theorem GlF.stable {α : Type} [Lay α] {w : World} {p : Option Addr} {xs : List α} (h : GlF p xs w) : Stable (fun _ => False) w (GlF p xs) := fun _ hw' => h.mono fun _ _ hc => cell_agree hw' hc
theorem gl_nil {α : Type} [Lay α] {w : World} {p : Option Addr} : GlF (α := α) p [] w := ⟨SlF.nil, fun _ h => by cases h⟩
theorem gl_some {α : Type} [Lay α] {w : World} {p : Option Addr} {xs : List α} (h : GlF p xs w) {k : Nat} (hk : k < xs.length) (hz : 0 < Enc.sz α) : ∃ ad, p = some ad := by
  cases hp : p with
  | some ad => exact ⟨ad, rfl⟩
  | none =>
    have h1 := congrArg List.length (h.1.1 hp)
    rw [encL_len] at h1
    have h2 : xs.length * Enc.sz α = 0 := h1
    rcases Nat.mul_eq_zero.1 h2 with h3 | h3 <;> omega
theorem gl_cell {α : Type} [Lay α] {w : World} {p : Option Addr} {xs : List α} (h : GlF p xs w) {k : Nat} (hk : k < xs.length) {j : Nat} {u : Value} (hj : (Enc.cells (nthG xs k))[j]? = some u) : w.cell? (gAddr p k (Enc.sz α) j) = some u := by
  have hjs : j < Enc.sz α := by
    have := (List.getElem?_eq_some_iff.1 hj).1
    rwa [Enc.len] at this
  obtain ⟨ad, rfl⟩ := gl_some h hk (by omega)
  exact h.1.2 ad rfl _ _ ((encL_get xs k _ (nthG_get hk) j hjs).trans hj)
class HasG (fs : List (World → Prop)) (p : Option Addr) (α : outParam Type) (i : outParam (Lay α)) (xs : outParam (List α)) : Prop where
  of : ∀ (M : Nat → Prop) (w : World), (∀ Φ ∈ fs, Stable M w Φ) → Stable M w (GlF p xs)
instance hasg0 {α : Type} [i : Lay α] {fs : List (World → Prop)} {p : Option Addr} {xs : List α} : HasG (GlF p xs :: fs) p α i xs := ⟨fun _ _ h => h _ (by simp)⟩
instance (priority := 900) hasgS {α : Type} {i : Lay α} {fs : List (World → Prop)} {Φ : World → Prop} {p : Option Addr} {xs : List α} [h : HasG fs p α i xs] : HasG (Φ :: fs) p α i xs := ⟨fun M w hf => h.of M w fun Ψ hΨ => hf Ψ (by simp [hΨ])⟩
class HasGx (fs : List (World → Prop)) {α : Type} [Lay α] (xs : List α) : Prop where
  of : ∀ (M : Nat → Prop) (w : World), (∀ Φ ∈ fs, Stable M w Φ) → ∃ p, Stable M w (GlF p xs)
instance hasgx0 {α : Type} [i : Lay α] {fs : List (World → Prop)} {p : Option Addr} {xs : List α} : HasGx (GlF p xs :: fs) xs := ⟨fun _ _ h => ⟨p, h _ (by simp)⟩⟩
instance (priority := 900) hasgxS {α : Type} [i : Lay α] {fs : List (World → Prop)} {Φ : World → Prop} {xs : List α} [h : HasGx fs xs] : HasGx (Φ :: fs) xs := ⟨fun M w hf => h.of M w fun Ψ hΨ => hf Ψ (by simp [hΨ])⟩
class HasI (fs : List (World → Prop)) {α : Type} [Lay α] (x : α) : Prop where
  of : ∀ (M : Nat → Prop) (w : World), (∀ Φ ∈ fs, Stable M w Φ) → Stable M w (InF x)
instance (priority := 900) hasi1 {α : Type} [Lay α] {fs : List (World → Prop)} {xs : List α} {k : Nat} [h : HasGx fs xs] [hk : KLt k xs.length] : HasI fs (nthG xs k) := ⟨fun M w hf => by
  obtain ⟨p, hp⟩ := h.of M w hf
  exact hp.imp fun w' hw' => hw'.2 _ (nthG_mem hk.lt)⟩
instance (priority := 850) hasgI {α : Type} [i : Lay α] {fs : List (World → Prop)} {s : Sl α} [h : HasI fs s] : HasG fs s.p α i s.xs := ⟨fun M w hf => (h.of M w hf).imp fun _ h => h.2.2⟩
instance (priority := 850) hasgxI {α : Type} [i : Lay α] {fs : List (World → Prop)} {s : Sl α} [h : HasI fs s] : HasGx fs s.xs := ⟨fun M w hf => ⟨s.p, (h.of M w hf).imp fun _ h => h.2.2⟩⟩
section
variable {α : Type} [Lay α] {w0 : World} {M0 : Nat → Prop} {ds : List Deferred} {a : Act} {w : World} {l : List Value} {bs : List Item} {fs : List (World → Prop)}
theorem Mem.i (m : Mem w bs fs) (x : α) [h : HasI fs x] : Stable (foots bs) w (InF x) := h.of _ _ m.facts
theorem St.i (S : St w0 M0 ds a w l bs fs) (x : α) [h : HasI fs x] : Stable (foots bs) w (InF x) := S.mem.i x
theorem St.gl {α : Type} {i : Lay α} (S : St w0 M0 ds a w l bs fs) (p : Option Addr) {xs : List α} [h : HasG fs p α i xs] : Stable (foots bs) w (GlF p xs) := h.of _ _ S.wd.facts
theorem St.gl0 {α : Type} {i : Lay α} (S : St w0 M0 ds a w l bs fs) (p : Option Addr) {xs : List α} [h : HasG fs p α i xs] : Stable (fun _ => False) w (GlF p xs) := (S.gl p).less fun _ _ h => h.elim
theorem gl_of_own {M : Nat → Prop} {e : TypeId} {p : Option Addr} {n c sz : Nat} {xs : List α} (h : w.ownsRow 0 e sz (.slice p n c) n (encL xs)) (hk : ∀ x ∈ xs, Stable M w (InF x)) (hM : ∀ ad, p = some ad → ¬ M ad.block) : Stable M w (GlF p xs) := fun w' hw' =>
  ⟨SlF.stable (own_sl h) hM w' hw', fun x hx => hk x hx w' hw'⟩
end
class SzE (α : Type) [Lay α] (n : outParam Nat) : Prop where
  eq : Enc.sz α = n
  pos : 0 < n
instance : SzE Bool 1 := ⟨rfl, by decide⟩
instance : SzE UInt8 1 := ⟨rfl, by decide⟩
instance {α : Type} [Lay α] : SzE (Sl α) 1 := ⟨rfl, by decide⟩
class CellsOf {α : Type} [Lay α] (x : α) (cs : outParam (List Value)) : Prop where eq : Enc.cells x = cs
instance {x : Bool} : CellsOf x [.bool x] := ⟨rfl⟩
instance {x : UInt8} : CellsOf x [.int .u8 x.toNat] := ⟨rfl⟩
instance {α : Type} [Lay α] {x : Sl α} : CellsOf x [.slice x.p x.xs.length x.cap] := ⟨rfl⟩
section
variable {P : Program} {l : Cx} {bs : List Item} {fs : List (World → Prop)} {x y : Operand} {p : Option Addr} {n c k sz off : Nat} {kk : IntKind} {m : Int} {t ty e : TypeId} {z : Value} {by_ : Nat} {α : Type} {i : Lay α} {xs : List α}
instance (priority := 880) opIdxG [Ev l x (.slice p n c)] [Ev l y (.int kk m)] [Und P t (.slice e)] [TI P e z sz by_] [hm : IsNat m k] [hl : HasG fs p α i xs] [hs : SzE α sz] [hk : KLt k n] [hk' : KLt k xs.length] :
    OpQ P (.indexAddr t x y) ty l bs fs (.pointer (some (gAddr p k sz 0))) := ⟨fun ρ w h mm => by
  have hlt := hk.lt
  obtain ⟨ad, rfl⟩ := gl_some (hl.of _ _ mm.facts).now hk'.lt (by rw [hs.eq]; exact hs.pos)
  have h2 := hm.eq
  subst h2
  simp [xop, execOp, h.ev (x := x) (v := .slice (some ad) n c), h.ev (x := y) (v := .int kk (k : Int))]
  simp [run_indexAt (P := P) (t := t) (e := e) (z := z) (sz := sz) (by_ := by_) (Int.natCast_nonneg k) (Int.ofNat_lt.2 hlt), gAddr]⟩
theorem gAddr_add (p : Option Addr) (k sz o j : Nat) : (gAddr p k sz o).add j = gAddr p k sz (o + j) := by simp only [gAddr, add_add, Nat.add_assoc]
instance (priority := 880) opFieldG [Ev l x (.pointer (some (gAddr p k sz 0)))] {s f ft : Nat} [hf : Fld P s f off ft] : OpQ P (.fieldAddr s x f) ty l bs fs (.pointer (some (gAddr p k sz off))) := ⟨fun ρ w h _ => by
  simp [xop, execOp, h.ev (x := x) (v := .pointer (some (gAddr p k sz 0))), run_fieldAt (P := P) (s := s) (f := f) (off := off) (ft := ft), gAddr_add]⟩
theorem gl_cells {cs : List Value} {w : World} [hs : SzE α sz] (h : GlF p xs w) (hk : k < xs.length) [hc : CellsOf (nthG xs k) cs] {j : Nat} {u : Value} (hj : cs[j]? = some u) : w.cell? (gAddr p k sz j) = some u := by
  rw [← hs.eq]
  exact gl_cell h hk (by rw [hc.eq]; exact hj)
instance (priority := 780) opLoadG1 {v : Value} {cs : List Value} [Ev l x (.pointer (some (gAddr p k sz off)))] [ha : AggT P t false] [hl : HasG fs p α i xs] [hs : SzE α sz] [hk : KLt k xs.length] [hc : CellsOf (nthG xs k) cs] [hn : Nth cs off v] :
    OpQ P (.load t x) ty l bs fs v := ⟨fun ρ w h mm => by
  have h1 := gl_cells (hl.of _ _ mm.facts).now hk.lt hn.eq
  simp [xop, execOp, Instr.loadAt, h.ev (x := x) (v := .pointer (some (gAddr p k sz off))), Instr.sureAddr, loadVar, Sem.run_bind, ha.run, load, Sem.run, h1]⟩
instance (priority := 780) opLoadGA {cs vs : List Value} [Ev l x (.pointer (some (gAddr p k sz off)))] [ha : AggT P t true] [TI P t z n by_] [hl : HasG fs p α i xs] [hs : SzE α sz] [hk : KLt k xs.length] [hc : CellsOf (nthG xs k) cs] [hn : Seg cs off n vs] :
    OpQ P (.load t x) ty l bs fs (.agg ⟨vs⟩) := ⟨fun ρ w h mm => by
  have hlc := run_loadCells_list (P := P) w (gAddr p k sz off) vs (fun j v hj => by
    have hjn : j < n := by rw [← hn.eq.1]; exact (List.getElem?_eq_some_iff.1 hj).1
    rw [gAddr_add]
    exact gl_cells (hl.of _ _ mm.facts).now hk.lt ((hn.eq.2 j hjn).trans hj))
  rw [hn.eq.1] at hlc
  simp [xop, execOp, Instr.loadAt, h.ev (x := x) (v := .pointer (some (gAddr p k sz off))), Instr.sureAddr, loadVar, Sem.run_bind, ha.run, run_size, hlc]⟩
instance (priority := 860) srcG {tx : TypeId} [h : Und P tx (.slice e)] [hr : HasG fs p α i xs] [hs : SzE α sz] [hn : LenN xs n] : SrcV P tx (.slice p n c) bs fs sz n (encL xs) := ⟨fun w mm =>
  src_sl h.eq (hr.of _ _ mm.facts).now.1 (by rw [encL_len, hn.eq, hs.eq]) (encL_one xs) hs.pos⟩
end
class Tro (P : Program) (T : TypeId) (α : Type) [Lay α] : Prop where
  of : ∀ {H : Type} (enc : TypeId × Value → H) (w : World) (base : Nat) (spare : Nat → Bool) (held : Bool) (fuel : Nat) (cs : List Value) (x : DataW H × List MemPlace), DataW.trod enc P w base spare held fuel T cs = some x → ∃ a : α, cs = Enc.cells a ∧ Lay.inn w a
  size : P.cellsOf T = Enc.sz α
theorem str_of (s : ByteArray) : Value.string s = str s.data.toList := by simp [str]
theorem troBo {P : Program} {T : TypeId} (hu : P.underlying T = some .bool) (hs : P.cellsOf T = 1) : Tro P T Bool := ⟨fun enc w base spare held fuel cs x h => by
  obtain ⟨k, e0, _⟩ := DataW.trod_bool hu h
  exact ⟨k, e0, trivial⟩, hs⟩
theorem troS {P : Program} {T : TypeId} (hu : P.underlying T = some .string) (hs : P.cellsOf T = 1) : Tro P T (List UInt8) := ⟨fun enc w base spare held fuel cs x h => by
  obtain ⟨s, e0, _⟩ := DataW.trod_string hu h
  exact ⟨s.data.toList, by rw [e0, str_of]; rfl, trivial⟩, hs⟩
theorem troSl {P : Program} {T L : TypeId} {α : Type} [Lay α] [hT : Tro P T α] (hu : P.underlying L = some (.slice T)) (hs : P.cellsOf L = 1) : Tro P L (Sl α) := ⟨fun enc w base spare held fuel cs x h => by
  rcases DataW.trod_slice hu h with ⟨e4, _⟩ | ⟨ad, len, cap, elems, rest, n', rfl, e4, _, _, hlc, hcm, hel, hem, _, _⟩
  · exact ⟨⟨none, 0, []⟩, e4, Nat.le_refl _, Nat.zero_le _, gl_nil⟩
  · subst e4
    have : Inhabited α := ⟨Lay.dflt⟩
    obtain ⟨g, hg⟩ := choose_lt (α := α) (p := fun i t => w.cells? base (ad.add (i * Enc.sz α)) (Enc.sz α) = some (Enc.cells t) ∧ Lay.inn w t) (n := len) (fun i hi => by
      have h1 := hem i hi
      rw [hT.size, List.getElem?_eq_getElem (by omega)] at h1
      obtain ⟨cs', h2, h3⟩ := Option.bind_eq_some_iff.1 h1
      obtain ⟨t, rfl, ht⟩ := hT.of _ _ _ _ _ _ _ _ h3
      exact ⟨t, h2, ht⟩)
    refine ⟨⟨some ad, cap, (List.range len).map g⟩, by simp [Enc.cells, Sl.v], by simpa using hlc, hcm, ⟨fun h => (by cases h), fun ad' hp j u hj => ?_⟩, fun t ht => ?_⟩
    · obtain rfl : ad = ad' := by simpa using hp
      have hjl : j < len * Enc.sz α := by
        have := (List.getElem?_eq_some_iff.1 hj).1
        rw [encL_len] at this; simpa using this
      have hz : 0 < Enc.sz α := Nat.pos_of_ne_zero fun h0 => by rw [h0] at hjl; omega
      have hi : j / Enc.sz α < len := (Nat.div_lt_iff_lt_mul hz).2 hjl
      have hm : j % Enc.sz α < Enc.sz α := Nat.mod_lt _ hz
      have hdm : j / Enc.sz α * Enc.sz α + j % Enc.sz α = j := Nat.div_add_mod' j _
      obtain ⟨hc, -⟩ := hg _ hi
      obtain ⟨_, _, h5⟩ := World.cells?_some hc
      have h6 := h5 _ hm
      have h7 := encL_get ((List.range len).map g) (j / Enc.sz α) (g (j / Enc.sz α)) (by simp [hi]) _ hm
      rw [hdm, hj] at h7
      rw [Go.Deep.add_add, hdm] at h6
      rw [h6, ← h7]
    · obtain ⟨i, hi, rfl⟩ := List.mem_map.1 ht
      exact (hg i (List.mem_range.1 hi)).2, hs⟩
theorem trod_flds {H : Type} {enc : TypeId × Value → H} {P : Program} {w : World} {base : Nat} {spare : Nat → Bool} {held : Bool} {T : TypeId} {fs : Array Field} (hu : P.underlying T = some (.struct fs)) {fuel : Nat} {cs : List Value} {x : DataW H × List MemPlace} (h : DataW.trod enc P w base spare held fuel T cs = some x) :
    cs.length = P.cellsOf T ∧ ∀ (i t o : Nat), (fs.toList.map (fun f => (f.type, f.offset)))[i]? = some (t, o) → ∃ n y, DataW.trod enc P w base spare held n t ((cs.drop o).take (P.cellsOf t)) = some y := by
  obtain ⟨xs, n, rfl, rfl, hlen, hxl, hx⟩ := DataW.trod_struct hu h
  refine ⟨hlen, fun i t o hi => ?_⟩
  rw [List.getElem?_map] at hi
  obtain ⟨f, hf1, hf2⟩ := Option.map_eq_some_iff.1 hi
  simp only [Prod.mk.injEq] at hf2
  obtain ⟨rfl, rfl⟩ := hf2
  have hlt : i < fs.size := by simpa using (List.getElem?_eq_some_iff.1 hf1).1
  have := hx i f (by simpa using hf1)
  rw [List.getElem?_eq_getElem (by omega)] at this
  exact ⟨n, _, this⟩
theorem trod_fld {H : Type} {enc : TypeId × Value → H} {P : Program} {w : World} {base : Nat} {spare : Nat → Bool} {held : Bool} {T : TypeId} {α : Type} [Lay α] [hT : Tro P T α] {n : Nat} {cs : List Value} {y : DataW H × List MemPlace} {o s : Nat} (h : DataW.trod enc P w base spare held n T ((cs.drop o).take s) = some y) (hs : s = P.cellsOf T) :
    ∃ a : α, (cs.drop o).take (Enc.sz α) = Enc.cells a ∧ Lay.inn w a := by
  subst hs
  obtain ⟨a, h1, h2⟩ := hT.of _ _ _ _ _ _ _ _ h
  exact ⟨a, by rw [← hT.size]; exact h1, h2⟩
theorem troT {P : Program} {T : TypeId} [hT : TermTy P T] : Tro P T LTerm := ⟨fun enc w base spare held fuel cs x h => term_of_trod fuel cs x h, by obtain ⟨fs, I, S, L, hu, hf, hI, hS, hL, c1, c2, c3, c4⟩ := hT.ex; exact c1⟩
theorem slice_of_Trod {P : Program} {L T : TypeId} {α : Type} [Lay α] [hT : Tro P L (Sl α)] {H : Type} {enc : TypeId × Value → H} {w : World} {base : Nat} {spare : Nat → Bool} {held : Bool} (hu : P.underlying L = some (.slice T)) {v : Value} {d : DataW H} {p : List MemPlace} {r : Reach} {W : World} {base' : Nat} (h : DataW.Trod enc P w base spare held L v d p) (hv : Value.okWide P W r base' L v) :
    ∃ s : Sl α, v = s.v ∧ s.xs.length ≤ s.cap ∧ s.cap ≤ maxLen ∧ GlF s.p s.xs w := by
  obtain ⟨a, len, cap, rfl⟩ := okWide_slice hu hv
  obtain ⟨fuel, hf⟩ := h
  obtain ⟨s, e, hs⟩ := hT.of _ _ _ _ _ _ _ _ hf
  refine ⟨s, ?_, hs⟩
  have : [Value.slice a len cap] = [s.v] := by simpa [Value.cells, Enc.cells] using e
  simpa using this
end Go.Wk
namespace Go.Wk
open Go
class SetG (l : List Value) (ms : List (Nat × Value)) (l' : outParam (List Value)) : Prop where ok : True
instance setg0 {l : List Value} : SetG l [] l := ⟨trivial⟩
instance setg1 {u v : Value} {l l' : List Value} {ms : List (Nat × Value)} [SetG l ms l'] : SetG (u :: l) ((0, v) :: ms) (v :: l') := ⟨trivial⟩
instance setg2 {u v : Value} {g : Nat} {l l' : List Value} {ms : List (Nat × Value)} [SetG l ((g, v) :: ms) l'] : SetG (u :: l) ((g + 1, v) :: ms) (u :: l') := ⟨trivial⟩
section
variable {P : Program} {r : Option Nat} {Q : Exit → Act → World → Prop} {w0 : World} {M0 : Nat → Prop} {ds : List Deferred} {a : Act} {w : World} {l : List Value} {bs : List Item} {fs : List (World → Prop)}
theorem c_drwe0 {id : Nat} {lo : List Oper}  (t : Tr) (S : St w0 M0 ds a w l bs fs) (mods : (Nat → Value) → List (Nat × Value)) {l1 : (Nat → Value) → List Value} [∀ uu, SetG l (mods uu) (l1 uu)] (bs0 : List Item) (bs1 : List Item) (fs1 : List (World → Prop)) (rel : Prop)
    (h : ∀ w, St w0 M0 ds a w l bs fs → AT P lo.toArray (fun w => Wd w0 M0 w bs0 fs) (fun a w => ∃ vv, rel ∧ St w0 M0 ds a w (l1 vv) bs1 fs1) t a w) (hK : ∀  uu a w, rel → St w0 M0 ds a w (l1 uu) bs1 fs1 → Q .normal a w) (hm : P.follows .mixedOrders = true := by kernel_rfl)
    (hd : ((lo.all fun o => !isDefer o.op) && (Nat.beq t.len lo.length && (Region.noSelect lo.toArray && flowT lo.toArray t (Array.replicate lo.length false)))) = true := by kernel_rfl) : Wp P r (.region id lo.toArray true) Q a w :=
  c_drawT t bs0 S _ h (fun a w h => by obtain ⟨vv, h1, h2⟩ := h; exact hK  vv a w h1 h2) hm hd
theorem c_fore1 {c : Code} {ι1 : Type} (S : St w0 M0 ds a w l bs fs) (mods : ι1 → (Nat → Value) → List (Nat × Value)) {l1 : ι1 → (Nat → Value) → List Value} [∀ x1 uu, SetG l (mods x1 uu) (l1 x1 uu)] (bs1 : ι1 → List Item) (fs1 : ι1 → List (World → Prop)) (rel : ι1 → Prop) (μ : ι1 → Nat) (z1 : ι1) (h0 : rel z1) (uu0 : Nat → Value) (S0 : St w0 M0 ds a w (l1 z1 uu0) (bs1 z1) (fs1 z1))
    (hr : ∀ x1 uu a w, rel x1 → St w0 M0 ds a w (l1 x1 uu) (bs1 x1) (fs1 x1) → Wp P r c (Exit.then (fun a w => ∃ y1 vv, rel y1 ∧ St w0 M0 ds a w (l1 y1 vv) (bs1 y1) (fs1 y1) ∧ μ y1 < μ x1) Q) a w) : Wp P r (.loop c) Q a w := by
  refine c_loop (ι := ι1) (fun p a w => rel p ∧ ∃ uu, St w0 M0 ds a w (l1 p uu) (bs1 p) (fs1 p)) (fun p => μ p) (z1) ⟨h0, uu0, S0⟩ ?_
  rintro p a w ⟨h1, uu, S1⟩
  refine wpIn_mono (hr p uu a w h1 S1) fun e a1 w1 hq => ?_
  cases e <;> first | exact hq | skip
  obtain ⟨y1, vv, h2, S2, hm⟩ := hq
  exact ⟨y1, ⟨h2, vv, S2⟩, hm⟩
theorem c_mrge1 {x y : Code} {ι1 : Type} (S : St w0 M0 ds a w l bs fs) (mods : ι1 → (Nat → Value) → List (Nat × Value)) {l1 : ι1 → (Nat → Value) → List Value} [∀ x1 uu, SetG l (mods x1 uu) (l1 x1 uu)] (bs1 : ι1 → List Item) (fs1 : ι1 → List (World → Prop)) (rel : ι1 → Prop)
    (hx : Wp P r x (Exit.then (fun a w => ∃ y1 vv, rel y1 ∧ St w0 M0 ds a w (l1 y1 vv) (bs1 y1) (fs1 y1)) Q) a w) (hy : ∀ x1 uu a w, rel x1 → St w0 M0 ds a w (l1 x1 uu) (bs1 x1) (fs1 x1) → Wp P r y Q a w) : Wp P r (.seq x y) Q a w :=
  c_merge _ hx fun a w h => by obtain ⟨y1, vv, h1, h2⟩ := h; exact hy y1 vv a w h1 h2
theorem c_forb1 {c : Code} {ι1 : Type} (S : St w0 M0 ds a w l bs fs) (mods : ι1 → (Nat → Value) → List (Nat × Value)) {l1 : ι1 → (Nat → Value) → List Value} [∀ x1 uu, SetG l (mods x1 uu) (l1 x1 uu)]   (rel : ι1 → Prop) (μ : ι1 → Nat) (z1 : ι1) (h0 : rel z1) (uu0 : Nat → Value) (S0 : St w0 M0 ds a w (l1 z1 uu0) bs fs)
    (hr : ∀ x1 uu a w, rel x1 → St w0 M0 ds a w (l1 x1 uu) bs fs → Wp P r c (Exit.then (fun a w => ∃ y1 vv, rel y1 ∧ St w0 M0 ds a w (l1 y1 vv) bs fs ∧ μ y1 < μ x1) Q) a w) : Wp P r (.loop c) Q a w := by
  refine c_loop (ι := ι1) (fun p a w => rel p ∧ ∃ uu, St w0 M0 ds a w (l1 p uu) bs fs) (fun p => μ p) (z1) ⟨h0, uu0, S0⟩ ?_
  rintro p a w ⟨h1, uu, S1⟩
  refine wpIn_mono (hr p uu a w h1 S1) fun e a1 w1 hq => ?_
  cases e <;> first | exact hq | skip
  obtain ⟨y1, vv, h2, S2, hm⟩ := hq
  exact ⟨y1, ⟨h2, vv, S2⟩, hm⟩
theorem c_fore2 {c : Code} {ι1 : Type} {ι2 : Type} (S : St w0 M0 ds a w l bs fs) (mods : ι1 → ι2 → (Nat → Value) → List (Nat × Value)) {l1 : ι1 → ι2 → (Nat → Value) → List Value} [∀ x1 x2 uu, SetG l (mods x1 x2 uu) (l1 x1 x2 uu)] (bs1 : ι1 → ι2 → List Item) (fs1 : ι1 → ι2 → List (World → Prop)) (rel : ι1 → ι2 → Prop) (μ : ι1 → ι2 → Nat) (z1 : ι1) (z2 : ι2) (h0 : rel z1 z2) (uu0 : Nat → Value) (S0 : St w0 M0 ds a w (l1 z1 z2 uu0) (bs1 z1 z2) (fs1 z1 z2))
    (hr : ∀ x1 x2 uu a w, rel x1 x2 → St w0 M0 ds a w (l1 x1 x2 uu) (bs1 x1 x2) (fs1 x1 x2) → Wp P r c (Exit.then (fun a w => ∃ y1 y2 vv, rel y1 y2 ∧ St w0 M0 ds a w (l1 y1 y2 vv) (bs1 y1 y2) (fs1 y1 y2) ∧ μ y1 y2 < μ x1 x2) Q) a w) : Wp P r (.loop c) Q a w := by
  refine c_loop (ι := ι1 × ι2) (fun p a w => rel (p.1) (p.2) ∧ ∃ uu, St w0 M0 ds a w (l1 (p.1) (p.2) uu) (bs1 (p.1) (p.2)) (fs1 (p.1) (p.2))) (fun p => μ (p.1) (p.2)) (z1, z2) ⟨h0, uu0, S0⟩ ?_
  rintro p a w ⟨h1, uu, S1⟩
  refine wpIn_mono (hr (p.1) (p.2) uu a w h1 S1) fun e a1 w1 hq => ?_
  cases e <;> first | exact hq | skip
  obtain ⟨y1, y2, vv, h2, S2, hm⟩ := hq
  exact ⟨(y1, y2), ⟨h2, vv, S2⟩, hm⟩
theorem c_mrge2 {x y : Code} {ι1 : Type} {ι2 : Type} (S : St w0 M0 ds a w l bs fs) (mods : ι1 → ι2 → (Nat → Value) → List (Nat × Value)) {l1 : ι1 → ι2 → (Nat → Value) → List Value} [∀ x1 x2 uu, SetG l (mods x1 x2 uu) (l1 x1 x2 uu)] (bs1 : ι1 → ι2 → List Item) (fs1 : ι1 → ι2 → List (World → Prop)) (rel : ι1 → ι2 → Prop)
    (hx : Wp P r x (Exit.then (fun a w => ∃ y1 y2 vv, rel y1 y2 ∧ St w0 M0 ds a w (l1 y1 y2 vv) (bs1 y1 y2) (fs1 y1 y2)) Q) a w) (hy : ∀ x1 x2 uu a w, rel x1 x2 → St w0 M0 ds a w (l1 x1 x2 uu) (bs1 x1 x2) (fs1 x1 x2) → Wp P r y Q a w) : Wp P r (.seq x y) Q a w :=
  c_merge _ hx fun a w h => by obtain ⟨y1, y2, vv, h1, h2⟩ := h; exact hy y1 y2 vv a w h1 h2
theorem c_drwe2 {id : Nat} {lo : List Oper} {ι1 : Type} {ι2 : Type} (t : Tr) (S : St w0 M0 ds a w l bs fs) (mods : ι1 → ι2 → (Nat → Value) → List (Nat × Value)) {l1 : ι1 → ι2 → (Nat → Value) → List Value} [∀ x1 x2 uu, SetG l (mods x1 x2 uu) (l1 x1 x2 uu)] (bs0 : List Item) (bs1 : ι1 → ι2 → List Item) (fs1 : ι1 → ι2 → List (World → Prop)) (rel : ι1 → ι2 → Prop)
    (h : ∀ w, St w0 M0 ds a w l bs fs → AT P lo.toArray (fun w => Wd w0 M0 w bs0 fs) (fun a w => ∃ y1 y2 vv, rel y1 y2 ∧ St w0 M0 ds a w (l1 y1 y2 vv) (bs1 y1 y2) (fs1 y1 y2)) t a w) (hK : ∀ x1 x2 uu a w, rel x1 x2 → St w0 M0 ds a w (l1 x1 x2 uu) (bs1 x1 x2) (fs1 x1 x2) → Q .normal a w) (hm : P.follows .mixedOrders = true := by kernel_rfl)
    (hd : ((lo.all fun o => !isDefer o.op) && (Nat.beq t.len lo.length && (Region.noSelect lo.toArray && flowT lo.toArray t (Array.replicate lo.length false)))) = true := by kernel_rfl) : Wp P r (.region id lo.toArray true) Q a w :=
  c_drawT t bs0 S _ h (fun a w h => by obtain ⟨y1, y2, vv, h1, h2⟩ := h; exact hK y1 y2 vv a w h1 h2) hm hd
theorem c_forb2 {c : Code} {ι1 : Type} {ι2 : Type} (S : St w0 M0 ds a w l bs fs) (mods : ι1 → ι2 → (Nat → Value) → List (Nat × Value)) {l1 : ι1 → ι2 → (Nat → Value) → List Value} [∀ x1 x2 uu, SetG l (mods x1 x2 uu) (l1 x1 x2 uu)]   (rel : ι1 → ι2 → Prop) (μ : ι1 → ι2 → Nat) (z1 : ι1) (z2 : ι2) (h0 : rel z1 z2) (uu0 : Nat → Value) (S0 : St w0 M0 ds a w (l1 z1 z2 uu0) bs fs)
    (hr : ∀ x1 x2 uu a w, rel x1 x2 → St w0 M0 ds a w (l1 x1 x2 uu) bs fs → Wp P r c (Exit.then (fun a w => ∃ y1 y2 vv, rel y1 y2 ∧ St w0 M0 ds a w (l1 y1 y2 vv) bs fs ∧ μ y1 y2 < μ x1 x2) Q) a w) : Wp P r (.loop c) Q a w := by
  refine c_loop (ι := ι1 × ι2) (fun p a w => rel (p.1) (p.2) ∧ ∃ uu, St w0 M0 ds a w (l1 (p.1) (p.2) uu) bs fs) (fun p => μ (p.1) (p.2)) (z1, z2) ⟨h0, uu0, S0⟩ ?_
  rintro p a w ⟨h1, uu, S1⟩
  refine wpIn_mono (hr (p.1) (p.2) uu a w h1 S1) fun e a1 w1 hq => ?_
  cases e <;> first | exact hq | skip
  obtain ⟨y1, y2, vv, h2, S2, hm⟩ := hq
  exact ⟨(y1, y2), ⟨h2, vv, S2⟩, hm⟩
theorem c_fore3 {c : Code} {ι1 : Type} {ι2 : Type} {ι3 : Type} (S : St w0 M0 ds a w l bs fs) (mods : ι1 → ι2 → ι3 → (Nat → Value) → List (Nat × Value)) {l1 : ι1 → ι2 → ι3 → (Nat → Value) → List Value} [∀ x1 x2 x3 uu, SetG l (mods x1 x2 x3 uu) (l1 x1 x2 x3 uu)] (bs1 : ι1 → ι2 → ι3 → List Item) (fs1 : ι1 → ι2 → ι3 → List (World → Prop)) (rel : ι1 → ι2 → ι3 → Prop) (μ : ι1 → ι2 → ι3 → Nat) (z1 : ι1) (z2 : ι2) (z3 : ι3) (h0 : rel z1 z2 z3) (uu0 : Nat → Value) (S0 : St w0 M0 ds a w (l1 z1 z2 z3 uu0) (bs1 z1 z2 z3) (fs1 z1 z2 z3))
    (hr : ∀ x1 x2 x3 uu a w, rel x1 x2 x3 → St w0 M0 ds a w (l1 x1 x2 x3 uu) (bs1 x1 x2 x3) (fs1 x1 x2 x3) → Wp P r c (Exit.then (fun a w => ∃ y1 y2 y3 vv, rel y1 y2 y3 ∧ St w0 M0 ds a w (l1 y1 y2 y3 vv) (bs1 y1 y2 y3) (fs1 y1 y2 y3) ∧ μ y1 y2 y3 < μ x1 x2 x3) Q) a w) : Wp P r (.loop c) Q a w := by
  refine c_loop (ι := ι1 × ι2 × ι3) (fun p a w => rel (p.1) (p.2.1) (p.2.2) ∧ ∃ uu, St w0 M0 ds a w (l1 (p.1) (p.2.1) (p.2.2) uu) (bs1 (p.1) (p.2.1) (p.2.2)) (fs1 (p.1) (p.2.1) (p.2.2))) (fun p => μ (p.1) (p.2.1) (p.2.2)) (z1, z2, z3) ⟨h0, uu0, S0⟩ ?_
  rintro p a w ⟨h1, uu, S1⟩
  refine wpIn_mono (hr (p.1) (p.2.1) (p.2.2) uu a w h1 S1) fun e a1 w1 hq => ?_
  cases e <;> first | exact hq | skip
  obtain ⟨y1, y2, y3, vv, h2, S2, hm⟩ := hq
  exact ⟨(y1, y2, y3), ⟨h2, vv, S2⟩, hm⟩
theorem c_mrge3 {x y : Code} {ι1 : Type} {ι2 : Type} {ι3 : Type} (S : St w0 M0 ds a w l bs fs) (mods : ι1 → ι2 → ι3 → (Nat → Value) → List (Nat × Value)) {l1 : ι1 → ι2 → ι3 → (Nat → Value) → List Value} [∀ x1 x2 x3 uu, SetG l (mods x1 x2 x3 uu) (l1 x1 x2 x3 uu)] (bs1 : ι1 → ι2 → ι3 → List Item) (fs1 : ι1 → ι2 → ι3 → List (World → Prop)) (rel : ι1 → ι2 → ι3 → Prop)
    (hx : Wp P r x (Exit.then (fun a w => ∃ y1 y2 y3 vv, rel y1 y2 y3 ∧ St w0 M0 ds a w (l1 y1 y2 y3 vv) (bs1 y1 y2 y3) (fs1 y1 y2 y3)) Q) a w) (hy : ∀ x1 x2 x3 uu a w, rel x1 x2 x3 → St w0 M0 ds a w (l1 x1 x2 x3 uu) (bs1 x1 x2 x3) (fs1 x1 x2 x3) → Wp P r y Q a w) : Wp P r (.seq x y) Q a w :=
  c_merge _ hx fun a w h => by obtain ⟨y1, y2, y3, vv, h1, h2⟩ := h; exact hy y1 y2 y3 vv a w h1 h2
theorem c_fore4 {c : Code} {ι1 : Type} {ι2 : Type} {ι3 : Type} {ι4 : Type} (S : St w0 M0 ds a w l bs fs) (mods : ι1 → ι2 → ι3 → ι4 → (Nat → Value) → List (Nat × Value)) {l1 : ι1 → ι2 → ι3 → ι4 → (Nat → Value) → List Value} [∀ x1 x2 x3 x4 uu, SetG l (mods x1 x2 x3 x4 uu) (l1 x1 x2 x3 x4 uu)] (bs1 : ι1 → ι2 → ι3 → ι4 → List Item) (fs1 : ι1 → ι2 → ι3 → ι4 → List (World → Prop)) (rel : ι1 → ι2 → ι3 → ι4 → Prop) (μ : ι1 → ι2 → ι3 → ι4 → Nat) (z1 : ι1) (z2 : ι2) (z3 : ι3) (z4 : ι4) (h0 : rel z1 z2 z3 z4) (uu0 : Nat → Value) (S0 : St w0 M0 ds a w (l1 z1 z2 z3 z4 uu0) (bs1 z1 z2 z3 z4) (fs1 z1 z2 z3 z4))
    (hr : ∀ x1 x2 x3 x4 uu a w, rel x1 x2 x3 x4 → St w0 M0 ds a w (l1 x1 x2 x3 x4 uu) (bs1 x1 x2 x3 x4) (fs1 x1 x2 x3 x4) → Wp P r c (Exit.then (fun a w => ∃ y1 y2 y3 y4 vv, rel y1 y2 y3 y4 ∧ St w0 M0 ds a w (l1 y1 y2 y3 y4 vv) (bs1 y1 y2 y3 y4) (fs1 y1 y2 y3 y4) ∧ μ y1 y2 y3 y4 < μ x1 x2 x3 x4) Q) a w) : Wp P r (.loop c) Q a w := by
  refine c_loop (ι := ι1 × ι2 × ι3 × ι4) (fun p a w => rel (p.1) (p.2.1) (p.2.2.1) (p.2.2.2) ∧ ∃ uu, St w0 M0 ds a w (l1 (p.1) (p.2.1) (p.2.2.1) (p.2.2.2) uu) (bs1 (p.1) (p.2.1) (p.2.2.1) (p.2.2.2)) (fs1 (p.1) (p.2.1) (p.2.2.1) (p.2.2.2))) (fun p => μ (p.1) (p.2.1) (p.2.2.1) (p.2.2.2)) (z1, z2, z3, z4) ⟨h0, uu0, S0⟩ ?_
  rintro p a w ⟨h1, uu, S1⟩
  refine wpIn_mono (hr (p.1) (p.2.1) (p.2.2.1) (p.2.2.2) uu a w h1 S1) fun e a1 w1 hq => ?_
  cases e <;> first | exact hq | skip
  obtain ⟨y1, y2, y3, y4, vv, h2, S2, hm⟩ := hq
  exact ⟨(y1, y2, y3, y4), ⟨h2, vv, S2⟩, hm⟩
theorem c_forf4 {c : Code} {ι1 : Type} {ι2 : Type} {ι3 : Type} {ι4 : Type} (S : St w0 M0 ds a w l bs fs) (mods : ι1 → ι2 → ι3 → ι4 → (Nat → Value) → List (Nat × Value)) {l1 : ι1 → ι2 → ι3 → ι4 → (Nat → Value) → List Value} [∀ x1 x2 x3 x4 uu, SetG l (mods x1 x2 x3 x4 uu) (l1 x1 x2 x3 x4 uu)] (bs1 : ι1 → ι2 → ι3 → ι4 → List Item)  (rel : ι1 → ι2 → ι3 → ι4 → Prop) (μ : ι1 → ι2 → ι3 → ι4 → Nat) (z1 : ι1) (z2 : ι2) (z3 : ι3) (z4 : ι4) (h0 : rel z1 z2 z3 z4) (uu0 : Nat → Value) (S0 : St w0 M0 ds a w (l1 z1 z2 z3 z4 uu0) (bs1 z1 z2 z3 z4) fs)
    (hr : ∀ x1 x2 x3 x4 uu a w, rel x1 x2 x3 x4 → St w0 M0 ds a w (l1 x1 x2 x3 x4 uu) (bs1 x1 x2 x3 x4) fs → Wp P r c (Exit.then (fun a w => ∃ y1 y2 y3 y4 vv, rel y1 y2 y3 y4 ∧ St w0 M0 ds a w (l1 y1 y2 y3 y4 vv) (bs1 y1 y2 y3 y4) fs ∧ μ y1 y2 y3 y4 < μ x1 x2 x3 x4) Q) a w) : Wp P r (.loop c) Q a w := by
  refine c_loop (ι := ι1 × ι2 × ι3 × ι4) (fun p a w => rel (p.1) (p.2.1) (p.2.2.1) (p.2.2.2) ∧ ∃ uu, St w0 M0 ds a w (l1 (p.1) (p.2.1) (p.2.2.1) (p.2.2.2) uu) (bs1 (p.1) (p.2.1) (p.2.2.1) (p.2.2.2)) fs) (fun p => μ (p.1) (p.2.1) (p.2.2.1) (p.2.2.2)) (z1, z2, z3, z4) ⟨h0, uu0, S0⟩ ?_
  rintro p a w ⟨h1, uu, S1⟩
  refine wpIn_mono (hr (p.1) (p.2.1) (p.2.2.1) (p.2.2.2) uu a w h1 S1) fun e a1 w1 hq => ?_
  cases e <;> first | exact hq | skip
  obtain ⟨y1, y2, y3, y4, vv, h2, S2, hm⟩ := hq
  exact ⟨(y1, y2, y3, y4), ⟨h2, vv, S2⟩, hm⟩
theorem c_fore5 {c : Code} {ι1 : Type} {ι2 : Type} {ι3 : Type} {ι4 : Type} {ι5 : Type} (S : St w0 M0 ds a w l bs fs) (mods : ι1 → ι2 → ι3 → ι4 → ι5 → (Nat → Value) → List (Nat × Value)) {l1 : ι1 → ι2 → ι3 → ι4 → ι5 → (Nat → Value) → List Value} [∀ x1 x2 x3 x4 x5 uu, SetG l (mods x1 x2 x3 x4 x5 uu) (l1 x1 x2 x3 x4 x5 uu)] (bs1 : ι1 → ι2 → ι3 → ι4 → ι5 → List Item) (fs1 : ι1 → ι2 → ι3 → ι4 → ι5 → List (World → Prop)) (rel : ι1 → ι2 → ι3 → ι4 → ι5 → Prop) (μ : ι1 → ι2 → ι3 → ι4 → ι5 → Nat) (z1 : ι1) (z2 : ι2) (z3 : ι3) (z4 : ι4) (z5 : ι5) (h0 : rel z1 z2 z3 z4 z5) (uu0 : Nat → Value) (S0 : St w0 M0 ds a w (l1 z1 z2 z3 z4 z5 uu0) (bs1 z1 z2 z3 z4 z5) (fs1 z1 z2 z3 z4 z5))
    (hr : ∀ x1 x2 x3 x4 x5 uu a w, rel x1 x2 x3 x4 x5 → St w0 M0 ds a w (l1 x1 x2 x3 x4 x5 uu) (bs1 x1 x2 x3 x4 x5) (fs1 x1 x2 x3 x4 x5) → Wp P r c (Exit.then (fun a w => ∃ y1 y2 y3 y4 y5 vv, rel y1 y2 y3 y4 y5 ∧ St w0 M0 ds a w (l1 y1 y2 y3 y4 y5 vv) (bs1 y1 y2 y3 y4 y5) (fs1 y1 y2 y3 y4 y5) ∧ μ y1 y2 y3 y4 y5 < μ x1 x2 x3 x4 x5) Q) a w) : Wp P r (.loop c) Q a w := by
  refine c_loop (ι := ι1 × ι2 × ι3 × ι4 × ι5) (fun p a w => rel (p.1) (p.2.1) (p.2.2.1) (p.2.2.2.1) (p.2.2.2.2) ∧ ∃ uu, St w0 M0 ds a w (l1 (p.1) (p.2.1) (p.2.2.1) (p.2.2.2.1) (p.2.2.2.2) uu) (bs1 (p.1) (p.2.1) (p.2.2.1) (p.2.2.2.1) (p.2.2.2.2)) (fs1 (p.1) (p.2.1) (p.2.2.1) (p.2.2.2.1) (p.2.2.2.2))) (fun p => μ (p.1) (p.2.1) (p.2.2.1) (p.2.2.2.1) (p.2.2.2.2)) (z1, z2, z3, z4, z5) ⟨h0, uu0, S0⟩ ?_
  rintro p a w ⟨h1, uu, S1⟩
  refine wpIn_mono (hr (p.1) (p.2.1) (p.2.2.1) (p.2.2.2.1) (p.2.2.2.2) uu a w h1 S1) fun e a1 w1 hq => ?_
  cases e <;> first | exact hq | skip
  obtain ⟨y1, y2, y3, y4, y5, vv, h2, S2, hm⟩ := hq
  exact ⟨(y1, y2, y3, y4, y5), ⟨h2, vv, S2⟩, hm⟩
theorem c_forf5 {c : Code} {ι1 : Type} {ι2 : Type} {ι3 : Type} {ι4 : Type} {ι5 : Type} (S : St w0 M0 ds a w l bs fs) (mods : ι1 → ι2 → ι3 → ι4 → ι5 → (Nat → Value) → List (Nat × Value)) {l1 : ι1 → ι2 → ι3 → ι4 → ι5 → (Nat → Value) → List Value} [∀ x1 x2 x3 x4 x5 uu, SetG l (mods x1 x2 x3 x4 x5 uu) (l1 x1 x2 x3 x4 x5 uu)] (bs1 : ι1 → ι2 → ι3 → ι4 → ι5 → List Item)  (rel : ι1 → ι2 → ι3 → ι4 → ι5 → Prop) (μ : ι1 → ι2 → ι3 → ι4 → ι5 → Nat) (z1 : ι1) (z2 : ι2) (z3 : ι3) (z4 : ι4) (z5 : ι5) (h0 : rel z1 z2 z3 z4 z5) (uu0 : Nat → Value) (S0 : St w0 M0 ds a w (l1 z1 z2 z3 z4 z5 uu0) (bs1 z1 z2 z3 z4 z5) fs)
    (hr : ∀ x1 x2 x3 x4 x5 uu a w, rel x1 x2 x3 x4 x5 → St w0 M0 ds a w (l1 x1 x2 x3 x4 x5 uu) (bs1 x1 x2 x3 x4 x5) fs → Wp P r c (Exit.then (fun a w => ∃ y1 y2 y3 y4 y5 vv, rel y1 y2 y3 y4 y5 ∧ St w0 M0 ds a w (l1 y1 y2 y3 y4 y5 vv) (bs1 y1 y2 y3 y4 y5) fs ∧ μ y1 y2 y3 y4 y5 < μ x1 x2 x3 x4 x5) Q) a w) : Wp P r (.loop c) Q a w := by
  refine c_loop (ι := ι1 × ι2 × ι3 × ι4 × ι5) (fun p a w => rel (p.1) (p.2.1) (p.2.2.1) (p.2.2.2.1) (p.2.2.2.2) ∧ ∃ uu, St w0 M0 ds a w (l1 (p.1) (p.2.1) (p.2.2.1) (p.2.2.2.1) (p.2.2.2.2) uu) (bs1 (p.1) (p.2.1) (p.2.2.1) (p.2.2.2.1) (p.2.2.2.2)) fs) (fun p => μ (p.1) (p.2.1) (p.2.2.1) (p.2.2.2.1) (p.2.2.2.2)) (z1, z2, z3, z4, z5) ⟨h0, uu0, S0⟩ ?_
  rintro p a w ⟨h1, uu, S1⟩
  refine wpIn_mono (hr (p.1) (p.2.1) (p.2.2.1) (p.2.2.2.1) (p.2.2.2.2) uu a w h1 S1) fun e a1 w1 hq => ?_
  cases e <;> first | exact hq | skip
  obtain ⟨y1, y2, y3, y4, y5, vv, h2, S2, hm⟩ := hq
  exact ⟨(y1, y2, y3, y4, y5), ⟨h2, vv, S2⟩, hm⟩
theorem c_fore6 {c : Code} {ι1 : Type} {ι2 : Type} {ι3 : Type} {ι4 : Type} {ι5 : Type} {ι6 : Type} (S : St w0 M0 ds a w l bs fs) (mods : ι1 → ι2 → ι3 → ι4 → ι5 → ι6 → (Nat → Value) → List (Nat × Value)) {l1 : ι1 → ι2 → ι3 → ι4 → ι5 → ι6 → (Nat → Value) → List Value} [∀ x1 x2 x3 x4 x5 x6 uu, SetG l (mods x1 x2 x3 x4 x5 x6 uu) (l1 x1 x2 x3 x4 x5 x6 uu)] (bs1 : ι1 → ι2 → ι3 → ι4 → ι5 → ι6 → List Item) (fs1 : ι1 → ι2 → ι3 → ι4 → ι5 → ι6 → List (World → Prop)) (rel : ι1 → ι2 → ι3 → ι4 → ι5 → ι6 → Prop) (μ : ι1 → ι2 → ι3 → ι4 → ι5 → ι6 → Nat) (z1 : ι1) (z2 : ι2) (z3 : ι3) (z4 : ι4) (z5 : ι5) (z6 : ι6) (h0 : rel z1 z2 z3 z4 z5 z6) (uu0 : Nat → Value) (S0 : St w0 M0 ds a w (l1 z1 z2 z3 z4 z5 z6 uu0) (bs1 z1 z2 z3 z4 z5 z6) (fs1 z1 z2 z3 z4 z5 z6))
    (hr : ∀ x1 x2 x3 x4 x5 x6 uu a w, rel x1 x2 x3 x4 x5 x6 → St w0 M0 ds a w (l1 x1 x2 x3 x4 x5 x6 uu) (bs1 x1 x2 x3 x4 x5 x6) (fs1 x1 x2 x3 x4 x5 x6) → Wp P r c (Exit.then (fun a w => ∃ y1 y2 y3 y4 y5 y6 vv, rel y1 y2 y3 y4 y5 y6 ∧ St w0 M0 ds a w (l1 y1 y2 y3 y4 y5 y6 vv) (bs1 y1 y2 y3 y4 y5 y6) (fs1 y1 y2 y3 y4 y5 y6) ∧ μ y1 y2 y3 y4 y5 y6 < μ x1 x2 x3 x4 x5 x6) Q) a w) : Wp P r (.loop c) Q a w := by
  refine c_loop (ι := ι1 × ι2 × ι3 × ι4 × ι5 × ι6) (fun p a w => rel (p.1) (p.2.1) (p.2.2.1) (p.2.2.2.1) (p.2.2.2.2.1) (p.2.2.2.2.2) ∧ ∃ uu, St w0 M0 ds a w (l1 (p.1) (p.2.1) (p.2.2.1) (p.2.2.2.1) (p.2.2.2.2.1) (p.2.2.2.2.2) uu) (bs1 (p.1) (p.2.1) (p.2.2.1) (p.2.2.2.1) (p.2.2.2.2.1) (p.2.2.2.2.2)) (fs1 (p.1) (p.2.1) (p.2.2.1) (p.2.2.2.1) (p.2.2.2.2.1) (p.2.2.2.2.2))) (fun p => μ (p.1) (p.2.1) (p.2.2.1) (p.2.2.2.1) (p.2.2.2.2.1) (p.2.2.2.2.2)) (z1, z2, z3, z4, z5, z6) ⟨h0, uu0, S0⟩ ?_
  rintro p a w ⟨h1, uu, S1⟩
  refine wpIn_mono (hr (p.1) (p.2.1) (p.2.2.1) (p.2.2.2.1) (p.2.2.2.2.1) (p.2.2.2.2.2) uu a w h1 S1) fun e a1 w1 hq => ?_
  cases e <;> first | exact hq | skip
  obtain ⟨y1, y2, y3, y4, y5, y6, vv, h2, S2, hm⟩ := hq
  exact ⟨(y1, y2, y3, y4, y5, y6), ⟨h2, vv, S2⟩, hm⟩
end
theorem Stable.tl {x : Item} {bs : List Item} {w : World} {Φ : World → Prop} (h : Stable (foots (x :: bs)) w Φ) : Stable (foots bs) w Φ := h.less fun _ _ ⟨it, hi, hk⟩ => ⟨it, List.mem_cons_of_mem _ hi, hk⟩
class ItOk (x : Item) : Prop where
  loc : ∀ w1 w2 : World, (∀ k, x.foot k → w2.heap[k]? = w1.heap[k]?) → x.holds w1 → x.holds w2
  lt : ∀ w : World, x.holds w → ∀ k, x.foot k → k < w.heap.size
instance itBox {b : Nat} {t : TypeId} {cs : List Value} : ItOk (box b t cs) := ⟨box_loc b t cs, fun w h k hk => by simp only [box] at hk h; subst hk; exact (Array.getElem?_eq_some_iff.1 h).1⟩
instance itRow {e : TypeId} {sz : Nat} {p : Option Addr} {n c : Nat} {xs : List Value} : ItOk (row e sz p n c xs) := ⟨row_loc e sz p n c xs, fun _ h => row_foot_lt h⟩
def both (x y : Item) : Item where
  foot := fun k => x.foot k ∨ y.foot k
  holds := fun w => x.holds w ∧ y.holds w ∧ ∀ k, x.foot k → ¬ y.foot k
  own := x.own && y.own
instance itBoth {x y : Item} [hx : ItOk x] [hy : ItOk y] : ItOk (both x y) := ⟨fun w1 w2 h h1 => ⟨hx.loc w1 w2 (fun k hk => h k (.inl hk)) h1.1, hy.loc w1 w2 (fun k hk => h k (.inr hk)) h1.2.1, h1.2.2⟩, fun w h k hk => hk.elim (hx.lt w h.1 k) (hy.lt w h.2.1 k)⟩
theorem foots_both {x y : Item} {bs : List Item} : foots (both x y :: bs) = foots (x :: y :: bs) := by
  funext k
  simp only [foots, List.mem_cons, or_and_right, exists_or, exists_eq_left, both, or_assoc]
section
variable {w0 : World} {M0 : Nat → Prop} {ds : List Deferred} {a : Act} {w : World} {l : List Value} {bs bs' : List Item} {fs : List (World → Prop)} {x y : Item}
theorem Wd.toBoth [ox : ItOk x] [oy : ItOk y] (h : Wd w0 M0 w (x :: y :: bs) fs) (hx : x.own = true) (hy : y.own = true) : Wd w0 M0 w (both x y :: bs) fs := by
  have hp := List.pairwise_cons.1 h.apart
  have hp2 := List.pairwise_cons.1 hp.2
  have hap : ∀ k, x.foot k → ¬ y.foot k := hp.1 y (by simp)
  refine ⟨h.agree, ?_, ?_, ?_, ?_, ?_, ?_⟩
  · intro it hi
    rcases List.mem_cons.1 hi with rfl | hi
    · exact ⟨h.held x (by simp), h.held y (by simp), hap⟩
    · exact h.held it (by simp [hi])
  · intro it hi k hk
    rcases List.mem_cons.1 hi with rfl | hi
    · exact hk.elim (h.lt x (by simp) k) (h.lt y (by simp) k)
    · exact h.lt it (by simp [hi]) k hk
  · intro it hi ho k hk
    rcases List.mem_cons.1 hi with rfl | hi
    · exact hk.elim (h.own x (by simp) hx k) (h.own y (by simp) hy k)
    · exact h.own it (by simp [hi]) ho k hk
  · exact List.pairwise_cons.2 ⟨fun it hi k hk => hk.elim (hp.1 it (by simp [hi]) k) (hp2.1 it hi k), hp2.2⟩
  · intro Φ hΦ; rw [foots_both]; exact h.facts Φ hΦ
  · intro it hi
    rcases List.mem_cons.1 hi with rfl | hi
    · exact (itBoth (x := x) (y := y)).loc
    · exact h.loc it (by simp [hi])
theorem Wd.ofBoth [ox : ItOk x] [oy : ItOk y] (h : Wd w0 M0 w (both x y :: bs) fs) (hx : x.own = true) (hy : y.own = true) : Wd w0 M0 w (x :: y :: bs) fs := by
  have hb := h.held (both x y) (by simp)
  have hp := List.pairwise_cons.1 h.apart
  have hown := h.own (both x y) (by simp) (by simp [both, hx, hy])
  refine ⟨h.agree, ?_, ?_, ?_, ?_, ?_, ?_⟩
  · intro it hi
    rcases List.mem_cons.1 hi with rfl | hi
    · exact hb.1
    · rcases List.mem_cons.1 hi with rfl | hi
      · exact hb.2.1
      · exact h.held it (by simp [hi])
  · intro it hi k hk
    rcases List.mem_cons.1 hi with rfl | hi
    · exact h.lt (both it y) (by simp) k (.inl hk)
    · rcases List.mem_cons.1 hi with rfl | hi
      · exact h.lt (both x it) (by simp) k (.inr hk)
      · exact h.lt it (by simp [hi]) k hk
  · intro it hi ho k hk
    rcases List.mem_cons.1 hi with rfl | hi
    · exact hown k (.inl hk)
    · rcases List.mem_cons.1 hi with rfl | hi
      · exact hown k (.inr hk)
      · exact h.own it (by simp [hi]) ho k hk
  · refine List.pairwise_cons.2 ⟨fun it hi k hk => ?_, List.pairwise_cons.2 ⟨fun it hi k hk => hp.1 it hi k (.inr hk), hp.2⟩⟩
    rcases List.mem_cons.1 hi with rfl | hi
    · exact hb.2.2 k hk
    · exact hp.1 it hi k (.inl hk)
  · intro Φ hΦ; rw [← foots_both]; exact h.facts Φ hΦ
  · intro it hi
    rcases List.mem_cons.1 hi with rfl | hi
    · exact ox.loc
    · rcases List.mem_cons.1 hi with rfl | hi
      · exact oy.loc
      · exact h.loc it (by simp [hi])
theorem St.perm (S : St w0 M0 ds a w l bs fs) (bs' : List Item) (hp : bs'.Perm bs) : St w0 M0 ds a w l bs' fs := ⟨S.slots, S.defers, S.wd.perm hp⟩
theorem St.front (S : St w0 M0 ds a w l bs fs) (x : Item) [hd : DropI bs x bs'] : St w0 M0 ds a w l (x :: bs') fs := S.perm _ hd.perm
theorem St.toBoth [ItOk x] [ItOk y] (S : St w0 M0 ds a w l (x :: y :: bs) fs) (hx : x.own = true := by rfl) (hy : y.own = true := by rfl) : St w0 M0 ds a w l (both x y :: bs) fs := ⟨S.slots, S.defers, S.wd.toBoth hx hy⟩
theorem St.ofBoth [ItOk x] [ItOk y] (S : St w0 M0 ds a w l (both x y :: bs) fs) (hx : x.own = true := by rfl) (hy : y.own = true := by rfl) : St w0 M0 ds a w l (x :: y :: bs) fs := ⟨S.slots, S.defers, S.wd.ofBoth hx hy⟩
theorem Wd.itLent {x : Item} [ox : ItOk x] (h : x.holds w) (hf : ∀ Φ ∈ fs, Stable x.foot w Φ) : Wd w x.foot w [x] fs := by
  refine ⟨Agree.refl _ _, ?_, ?_, ?_, by simp, ?_, ?_⟩
  · intro it hi; obtain rfl := List.mem_singleton.1 hi; exact h
  · intro it hi; obtain rfl := List.mem_singleton.1 hi; exact ox.lt w h
  · intro it hi _ k hk; obtain rfl := List.mem_singleton.1 hi; exact .inl hk
  · intro Φ hΦ
    refine (hf Φ hΦ).less fun k _ hk => ?_
    obtain ⟨it, hi, hk⟩ := hk
    obtain rfl := List.mem_singleton.1 hi; exact hk
  · intro it hi; obtain rfl := List.mem_singleton.1 hi; exact ox.loc
theorem Wd.it2Lent {x y : Item} [ox : ItOk x] [oy : ItOk y] (h : (both x y).holds w) (hx : x.own = true) (hy : y.own = true) (hf : ∀ Φ ∈ fs, Stable (both x y).foot w Φ) : Wd w (both x y).foot w [x, y] fs := (Wd.itLent h hf).ofBoth hx hy
class HasIt (bs : List Item) (x : Item) : Prop where mem : x ∈ bs
instance hit0 {x : Item} {bs : List Item} : HasIt (x :: bs) x := ⟨List.mem_cons_self ..⟩
instance (priority := 900) hit1 {x y : Item} {bs : List Item} [h : HasIt bs x] : HasIt (y :: bs) x := ⟨List.mem_cons_of_mem _ h.mem⟩
theorem St.it (S : St w0 M0 ds a w l bs fs) (x : Item) [h : HasIt bs x] : x.holds w := S.wd.held _ h.mem
theorem St.lend (S : St w0 M0 ds a w l bs fs) (x : Item) [h : HasIt bs x] {Φ : World → Prop} (hΦ : Stable (foots bs) w Φ) : Stable x.foot w Φ := hΦ.less fun _ _ hk => ⟨_, h.mem, hk⟩
theorem St.itNew (S : St w0 M0 ds a w l bs fs) (x : Item) [h : HasIt bs x] (ho : x.own = true := by rfl) : ∀ k, x.foot k → M0 k ∨ w0.heap.size ≤ k := S.wd.own _ h.mem ho
end
section
variable {P : Program} {r : Option Nat} {ops : Array Oper} {Q : Exit → Act → World → Prop} {w0 : World} {M0 : Nat → Prop} {ds : List Deferred} {a : Act} {w : World} {l : List Value} {bs : List Item} {fs : List (World → Prop)}
  {d : Option Nat} {ty : TypeId} {pos : String} {af : Array Edge} {rest : List Oper} {f : Nat} {x : Operand} {ys : List Operand} {args : List Value} {ts : Array TypeId}
theorem sit {l' : Value → List Value} (it : Item) [EntF P f] [CallTo ⟨[], l⟩ x ys f args] [hp : ∀ v, PutO l d v (l' v)] (S : St w0 M0 ds a w l bs fs) {R : Value → World → Prop} (hc : Ret P f args w it.foot R) (ho : it.own = true)
    (K : ∀ v a w', R v w' → (∀ (y : Item) {bs' : List Item} [ReplI bs it y bs'] [ItOk y], y.holds w' → (∀ k, y.foot k → it.foot k ∨ w.heap.size ≤ k) → St w0 M0 ds a w' (l' v) bs' fs) → WL P r ops Q rest a w') :
    WL P r ops Q (⟨d, .call { callee := .value x, args := ys.toArray, argTypes := ts }, ty, pos, af, none⟩ :: rest) a w :=
  sri it S hc ho fun v a w' hR hS => K v a w' hR fun y bs' hr oy h hf => hS y bs' hr h hf (oy.lt w' h) oy.loc
theorem snew {l' : Value → List Value} [EntF P f] [CallTo ⟨[], l⟩ x ys f args] [hp : ∀ v, PutO l d v (l' v)] (S : St w0 M0 ds a w l bs fs) {R : Value → World → Prop} (hc : Ret P f args w (fun _ => False) R)
    (K : ∀ v a w', w.heap.size ≤ w'.heap.size → R v w' → (∀ (y : Item) [ItOk y], y.holds w' → (∀ k, y.foot k → w.heap.size ≤ k) → St w0 M0 ds a w' (l' v) (y :: bs) fs) → St w0 M0 ds a w' (l' v) bs fs → WL P r ops Q rest a w') :
    WL P r ops Q (⟨d, .call { callee := .value x, args := ys.toArray, argTypes := ts }, ty, pos, af, none⟩ :: rest) a w := by
  refine cv_any S hc ?_
  rintro e w' ⟨v, rfl, ha, hR⟩
  have := hp v
  have S' := S.put (d := d) (v := v)
  exact ⟨v, rfl, K v _ w' ha.size hR (fun y oy hy hf => ⟨S'.slots, S'.defers, S'.wd.addItem ha hy hf (oy.lt w' hy) oy.loc⟩) ⟨S'.slots, S'.defers, S'.wd.step ha⟩⟩
end
instance : IsNat 12 12 := ⟨rfl⟩
instance : IsNat 16 16 := ⟨rfl⟩
instance : IsNat 28 28 := ⟨rfl⟩
instance : IsNat 43 43 := ⟨rfl⟩
instance : IsNat 48 48 := ⟨rfl⟩
instance : IsNat 64 64 := ⟨rfl⟩
instance (priority := 900) lecZ {a : Nat} : LeC 0 a := ⟨Nat.zero_le _⟩
section
variable {P : Program} {l lc : Cx} {bs : List Item} {fs : List (World → Prop)} {x y : Operand} {p : Option Addr} {n c k : Nat} {t ty e : TypeId} {z : Value} {sz by_ : Nat} {ol oh om : Option Operand} {lo hi mx : Nat} {s : List UInt8}
instance (priority := 710) opSliceQ0 [Ev lc x (.slice p n c)] [EvB lc oh n hi] [EvB lc om c mx] [Und P t (.slice e)] [TI P e z sz by_] [h1 : LeC mx c] [h2 : LeC hi mx] [h4 : HiOk om oh] :
    OpQ P (.slice t x none oh om) ty lc bs fs (.slice p hi mx) := ⟨fun ρ w h _ => by
  have := run_cut (P := P) (ρ := ρ) (lc := lc) (ol := none) (oh := oh) (om := om) (lo := 0) (hi := hi) (mx := mx) (t := t) (e := e) (z := z) (sz := sz) (by_ := by_) (x := x) (p := p) (n := n) (c := c) (ty := ty) h h1.le h2.le (Nat.zero_le _) h4.ok w
  rw [this]
  have e1 : (if mx = 0 then p else p.map (·.add (0 * sz))) = p := by
    split
    · rfl
    · cases p <;> simp [Addr.add]
  rw [e1]; simp⟩
end
theorem Wd.itLentM {w : World} {fs : List (World → Prop)} {x : Item} {Mr : Nat → Prop} [ox : ItOk x] (h : x.holds w) (hM : ∀ k, Mr k → k < w.heap.size ∧ ¬ x.foot k) (hf : ∀ Φ ∈ fs, Stable (fun k => x.foot k ∨ Mr k) w Φ) : Wd w x.foot w [x, ext Mr] fs := by
  refine ⟨Agree.refl _ _, ?_, ?_, ?_, ?_, ?_, ?_⟩
  · intro it hi
    rcases List.mem_cons.1 hi with rfl | hi
    · exact h
    · obtain rfl := List.mem_singleton.1 hi; trivial
  · intro it hi k hk
    rcases List.mem_cons.1 hi with rfl | hi
    · exact ox.lt w h k hk
    · obtain rfl := List.mem_singleton.1 hi; exact (hM k hk).1
  · intro it hi ho k hk
    rcases List.mem_cons.1 hi with rfl | hi
    · exact .inl hk
    · obtain rfl := List.mem_singleton.1 hi; cases ho
  · refine List.pairwise_cons.2 ⟨fun it hi k hk hk' => ?_, by simp⟩
    obtain rfl := List.mem_singleton.1 hi; exact (hM k hk').2 hk
  · intro Φ hΦ
    refine (hf Φ hΦ).less fun k _ hk => ?_
    obtain ⟨it, hi, hk⟩ := hk
    rcases List.mem_cons.1 hi with rfl | hi
    · exact .inl hk
    · obtain rfl := List.mem_singleton.1 hi; exact .inr hk
  · intro it hi
    rcases List.mem_cons.1 hi with rfl | hi
    · exact ox.loc
    · obtain rfl := List.mem_singleton.1 hi; exact fun _ _ _ _ => trivial
theorem Wd.it2LentM {w : World} {fs : List (World → Prop)} {x y : Item} {Mr : Nat → Prop} [ox : ItOk x] [oy : ItOk y] (h : (both x y).holds w) (hx : x.own = true) (hy : y.own = true) (hM : ∀ k, Mr k → k < w.heap.size ∧ ¬ (both x y).foot k) (hf : ∀ Φ ∈ fs, Stable (fun k => (both x y).foot k ∨ Mr k) w Φ) : Wd w (both x y).foot w [x, y, ext Mr] fs := (Wd.itLentM h hM hf).ofBoth hx hy
def restOf (bs : List Item) (x : Item) : Nat → Prop := fun k => foots bs k ∧ ¬ x.foot k
theorem St.restOk {w0 : World} {M0 : Nat → Prop} {ds : List Deferred} {a : Act} {w : World} {l : List Value} {bs : List Item} {fs : List (World → Prop)} (S : St w0 M0 ds a w l bs fs) (x : Item) : ∀ k, restOf bs x k → k < w.heap.size ∧ ¬ x.foot k := fun k h => ⟨foots_lt S k h.1, h.2⟩
theorem Stable.split {bs : List Item} {w : World} {Φ : World → Prop} (x : Item) [hx : HasIt bs x] (h : Stable (foots bs) w Φ) : Stable (fun k => x.foot k ∨ restOf bs x k) w Φ := h.less fun _ _ hk => hk.elim (fun h => ⟨x, hx.mem, h⟩) (fun h => h.1)
section
variable {P : Program} {r : Option Nat} {ops : Array Oper} {Q : Exit → Act → World → Prop} {w0 : World} {M0 : Nat → Prop} {ds : List Deferred} {a : Act} {w : World} {l : List Value} {bs bs' : List Item} {fs : List (World → Prop)}
  {d : Option Nat} {ty : TypeId} {pos : String} {af : Array Edge} {rest : List Oper} {f : Nat} {x : Operand} {ys : List Operand} {args : List Value} {ts : Array TypeId}
theorem St.addAll (S : St w0 M0 ds a w l bs fs) : ∀ (fs2 : List (World → Prop)), (∀ Φ ∈ fs2, Stable (foots bs) w Φ) → St w0 M0 ds a w l bs (fs2 ++ fs)
  | [], _ => S
  | Φ :: fs2, h => (St.addAll S fs2 (fun Ψ hΨ => h Ψ (by simp [hΨ]))).add (h Φ (by simp))
theorem sitM {l' : Value → List Value} (it : Item) [EntF P f] [CallTo ⟨[], l⟩ x ys f args] [hp : ∀ v, PutO l d v (l' v)] (S : St w0 M0 ds a w l bs fs) {R : Value → World → Prop} (hc : Ret P f args w it.foot R) (ho : it.own = true)
    (K : ∀ v a w', R v w' → (∀ (y : Item) (fs2 : List (World → Prop)) {fs3 : List (World → Prop)} {bs' : List Item} [AppL fs2 fs fs3] [ReplI bs it y bs'] [ItOk y], y.holds w' → (∀ k, y.foot k → it.foot k ∨ w.heap.size ≤ k) → (∀ Φ ∈ fs2, Stable (fun k => y.foot k ∨ restOf bs it k) w' Φ) → St w0 M0 ds a w' (l' v) bs' fs3) → WL P r ops Q rest a w') :
    WL P r ops Q (⟨d, .call { callee := .value x, args := ys.toArray, argTypes := ts }, ty, pos, af, none⟩ :: rest) a w := by
  have hap := S.wd.apart
  refine sit it S hc ho fun v a w' hR hS => K v a w' hR fun y fs2 fs3 bs' happ hr oy hy hf hfs => ?_
  rw [← happ.eq]
  refine (hS y hy hf).addAll fs2 fun Φ hΦ => (hfs Φ hΦ).less fun k _ hk => ?_
  obtain ⟨pre, post, rfl, rfl⟩ := hr.ex
  obtain ⟨z, hz, hk⟩ := hk
  have hp := List.pairwise_append.1 hap
  rcases List.mem_append.1 hz with hz | hz
  · exact .inr ⟨⟨z, by simp [hz], hk⟩, hp.2.2 z hz it (by simp) k hk⟩
  · rcases List.mem_cons.1 hz with rfl | hz
    · exact .inl hk
    · exact .inr ⟨⟨z, by simp [hz], hk⟩, fun hx => (List.pairwise_cons.1 hp.2.1).1 z hz k hx hk⟩
theorem St.boxToF (S : St w0 M0 ds a w l bs fs) (b : Nat) {t : TypeId} {cs : List Value} [hb : HasBox bs b t cs] [hd : DropI bs (Wk.box b t cs) bs'] : St w0 M0 ds a w l bs' (BoxF b t cs :: fs) := by
  have S1 := S.perm _ hd.perm
  have hap := List.pairwise_cons.1 S1.wd.apart
  have hbx : BoxF b t cs w := S1.wd.held (Wk.box b t cs) (by simp)
  have S2 : St w0 M0 ds a w l bs' fs := ⟨S1.slots, S1.defers, S1.wd.sub (.cons _ (.refl _)) (.refl _)⟩
  exact S2.add (BoxF.stable hbx fun ⟨it, hi, hk⟩ => hap.1 it hi b rfl hk)
end
section
variable {P : Program} {l : Cx} {bs : List Item} {fs : List (World → Prop)} {x y : Operand} {k : Nat} {kk : IntKind} {m : Int} {t ty : TypeId} {s : List UInt8}
instance opIndexStr [Ev l x (str s)] [Ev l y (.int kk m)] [Und P t .string] [hm : IsNat m k] [hk : KLt k s.length] : OpQ P (.index t x y) ty l bs fs (.int .u8 ((nthG s k).toNat : Int)) := ⟨fun ρ w h _ => by
  have h2 := hm.eq
  subst h2
  have hlt := hk.lt
  have hsz : k < (⟨s.toArray⟩ : ByteArray).size := hlt
  have hb : (⟨s.toArray⟩ : ByteArray)[k]? = some (nthG s k) := by
    rw [getElem?_pos (⟨s.toArray⟩ : ByteArray) k hsz]
    have : (⟨s.toArray⟩ : ByteArray)[k] = s[k] := rfl
    rw [this]
    have := nthG_get hlt
    rw [List.getElem?_eq_getElem hlt] at this
    exact this
  simp [xop, execOp, h.ev (x := x) (v := str s), h.ev (x := y) (v := .int kk (k : Int)), Instr.index, asIntOf, Sem.run_bind, run_und, hb]⟩
end
def idxG {α : Type} (q : α → Bool) : List α → Int → Int
  | [], _ => -1
  | x :: xs, i => if q x then i else idxG q xs (i + 1)
theorem idxG_any {α : Type} (q : α → Bool) : ∀ (xs : List α) (i : Int), 0 ≤ i → (decide (0 ≤ idxG q xs i) = xs.any q)
  | [], i, h => by simp [idxG]
  | x :: xs, i, h => by
    rw [idxG, List.any_cons]
    cases hq : q x with
    | true => simp [h]
    | false => simpa using idxG_any q xs (i + 1) (by omega)
theorem encL_takeG {α : Type} [Enc α] (xs : List α) (m : Nat) : encL (xs.take m) = (encL xs).take (m * Enc.sz α) := (encL_take xs m).symm
theorem GlF.take {α : Type} [Lay α] {p : Option Addr} {xs : List α} {w : World} (m : Nat) (h : GlF p xs w) : GlF p (xs.take m) w := by
  refine ⟨⟨fun hp => by rw [encL_takeG, h.1.1 hp]; simp, fun ad hp j u hj => h.1.2 ad hp j u ?_⟩, fun x hx => h.2 x (List.mem_of_mem_take hx)⟩
  rw [encL_takeG, List.getElem?_take] at hj
  split at hj
  · exact hj
  · cases hj
def AllI {α : Type} [Lay α] (L : List α) : World → Prop := fun w => ∀ x ∈ L, Lay.inn w x
theorem AllI.nil {α : Type} [Lay α] {M : Nat → Prop} {w : World} : Stable M w (AllI (α := α) []) := fun _ _ _ h => by cases h
theorem AllI.get {α : Type} [Lay α] {M : Nat → Prop} {w : World} {L : List α} (h : Stable M w (AllI L)) {x : α} (hx : x ∈ L) : Stable M w (InF x) := fun w' hw => h w' hw x hx
theorem AllI.snoc {α : Type} [Lay α] {M : Nat → Prop} {w : World} {L : List α} {r : α} (h : Stable M w (AllI L)) (hr : Stable M w (InF r)) : Stable M w (AllI (L ++ [r])) := fun w' hw x hx => by
  rcases List.mem_append.1 hx with hx | hx
  · exact h w' hw x hx
  · rw [List.mem_singleton.1 hx]; exact hr w' hw
theorem gl_own {α : Type} [Lay α] {M : Nat → Prop} {w : World} {e : TypeId} {p : Option Addr} {n c sz : Nat} {xs : List α} (h : w.ownsRow 0 e sz (.slice p n c) n (encL xs)) (hk : Stable M w (AllI xs)) (hM : ∀ ad, p = some ad → ¬ M ad.block) : Stable M w (GlF p xs) := gl_of_own h (fun _ hx => AllI.get hk hx) hM
end Go.Wk
namespace Go.Proofs.YtdakncgafdnjfaaGreat
open Go Go.Wk
set_option synthInstance.maxSize 100000
set_option synthInstance.maxHeartbeats 400000
set_option maxRecDepth 100000
theorem be_len (k : Nat) (v : Int) : (be k v).length = k := by simp [be]
theorem be_take (W k : Nat) (v : Int) (h : k < W) : (be W v).take (k + 1) = (be W v).take k ++ [Wk.u8 (v.fdiv (2 ^ (8 * (W - 1 - k))))] := by
  rw [List.take_add_one]
  congr 1
  simp [be, h]
theorem lay32_c (p : Option Addr) (n c : Nat) (b : List UInt8) (v : Int) (w0 : World) (hn : b.length = n) (hb : n ≤ 1073741824) (hv : 0 ≤ v) (hv' : v ≤ 4294967295) (hs : Stable (fun _ => False) w0 (SlF p (encL b))) :
    Ret Tryz.prog 196 [.slice p n c, .int .u32 v, .int .i64 4] w0 (fun _ => False) fun r w' => ∃ g, r = .slice (some ⟨g, 0, none⟩) (n + 4) (n + 4) ∧ w0.heap.size ≤ g ∧ w'.ownsRow 0 5 1 (.slice (some ⟨g, 0, none⟩) (n + 4) (n + 4)) (n + 4) (encL (b ++ be 4 v)) := by
  have hln : LenN b n := ⟨hn⟩
  refine enter Tryz.func196 rfl rfl (Wd.begin (fs := [SlF p (encL b)]) (by simpa using hs)) (fun a S => ?_)
  simp only [Tryz.ntmps196, List.length_cons, List.length_nil, Nat.reduceAdd, Nat.reduceSub, List.replicate_succ, List.replicate_zero, List.cons_append, List.nil_append] at S
  refine c_seq ?_
  refine c_region ?_
  refine sq S ?_; clear S; intro a S
  refine wl_nil ?_
  refine xtn ?_
  refine c_seq ?_
  refine c_region ?_
  iterate 4 (refine sq S ?_; clear S; intro a S)
  rw [w64 ((n : Int) + 4) (by omega) (by omega)] at S
  refine smk (n + 4) S (by omega) (by omega) (by omega) (by simp only [maxLen]; omega) ?_; clear S; intro g a w S
  refine sq S ?_; clear S; intro a S
  refine wl_nil ?_
  refine xtn ?_
  refine c_seq ?_
  refine c_region ?_
  iterate 2 (refine sq S ?_; clear S; intro a S)
  refine scp S (by omega) ?_; clear S; intro a w S
  rw [drop_rep] at S
  refine wl_nil ?_
  refine xtn ?_
  iterate 2 (refine c_seq ?_)
  refine c_region ?_
  iterate 2 (refine sq S ?_; clear S; intro a S)
  refine wl_nil ?_
  refine xtn ?_
  refine c_block ?_
  rw [show encL b ++ List.replicate 4 (Value.int .u8 0) = encL (b ++ ((be 4 v).take 0 ++ List.replicate (4 - 0) 0)) from by rw [encL_append]; rfl] at S
  refine c_fore1 S (fun (k : Nat) uu => [(8, uu 8), (9, .int .i64 (k : Nat)), (0, uu 19), (0, uu 20), (0, uu 21), (0, uu 22), (0, uu 23), (0, uu 24), (0, uu 25), (0, uu 26), (0, uu 27), (0, uu 28), (0, uu 29), (0, uu 30), (0, uu 31), (0, uu 32), (0, uu 33), (0, uu 34), (0, uu 35), (0, uu 36)]) (fun (k : Nat) => [Wk.row 5 1 (some ⟨g, 0, none⟩) (n + 4) (n + 4) (encL (b ++ ((be 4 v).take k ++ List.replicate (4 - k) 0)))]) (fun (k : Nat) => []) (fun (k : Nat) => k ≤ 4) (fun (k : Nat) => 4 - k) (0) ?_ S.uu ?_ ?_
  · exact Nat.zero_le _
  · first | exact S | exact S.sub _ _
  · clear S; rintro k uu a w hk S
    refine c_seq ?_
    refine c_region ?_
    refine sq S ?_; clear S; intro a S
    refine wl_nil ?_
    refine xtn ?_
    refine c_seq ?_
    refine c_cond S (fun h4 => ?_) (fun h4 => ?_)
    · refine c_skip ?_
      refine xtn ?_
      refine c_seq ?_
      refine c_block ?_
      refine c_seq ?_
      refine c_region ?_
      iterate 2 (refine sq S ?_; clear S; intro a S)
      refine wl_nil ?_
      refine xtn ?_
      refine c_region ?_
      iterate 4 (refine sq S ?_; clear S; intro a S)
      have hk2 : k < 4 := by simp at h4; omega
      refine sq S ?_; clear S; intro a S
      rw [w64 ((n : Int) + (k : Int)) (by omega) (by omega), show (n : Int) + (k : Int) = ((n + k : Nat) : Int) from by omega] at S
      iterate 2 (refine sq S ?_; clear S; intro a S)
      rw [wu64 v (by omega) (by omega)] at S
      iterate 2 (refine sq S ?_; clear S; intro a S)
      rw [show IntKind.i64.wrap (4 - 1) = (4 - 1 : Int) from rfl] at S
      iterate 2 (refine sq S ?_; clear S; intro a S)
      rw [w64 ((4 - 1 : Int) - (k : Int)) (by omega) (by omega)] at S
      refine sq S ?_; clear S; intro a S
      rw [w64 (8 * ((4 - 1 : Int) - (k : Int))) (by omega) (by omega), show 8 * ((4 - 1 : Int) - (k : Int)) = ((8 * (4 - 1 - k) : Nat) : Int) from by omega] at S
      refine sq S ?_; clear S; intro a S
      rw [show min (8 * (4 - 1 - k)) IntKind.u64.bits = 8 * (4 - 1 - k) from Nat.min_eq_left (by simp only [IntKind.bits]; omega)] at S
      refine sq S ?_; clear S; intro a S
      rw [u8_wrap] at S
      have hK : KLt (n + k) (n + 4) := ⟨by omega⟩
      refine sq S ?_; clear S; intro a S
      rw [show (⟨g, n + k, none⟩ : Addr) = rAddr (some ⟨g, 0, none⟩) (n + k) from by rw [rAddr, Option.getD_some, add_lit]] at S
      refine sws S (n + 4) (by omega) (by omega) ?_; clear S; intro a w S
      refine wl_nil ?_
      refine xbn ?_
      refine xtn ?_
      refine c_region ?_
      iterate 2 (refine sq S ?_; clear S; intro a S)
      refine wl_nil ?_
      refine xtn ?_
      rw [w64 ((k : Int) + 1) (by omega) (by omega)] at S
      have e : encL (b ++ ((be 4 v).take (k + 1) ++ List.replicate (4 - (k + 1)) 0)) = (encL (b ++ ((be 4 v).take k ++ List.replicate (4 - k) 0))).take (n + k) ++ [.int .u8 ((Wk.u8 (v.fdiv (2 ^ (8 * (4 - 1 - k))))).toNat : Int)] ++ (encL (b ++ ((be 4 v).take k ++ List.replicate (4 - k) 0))).drop (n + k + 1) := by
        have h1 := enc_set1 (b ++ (be 4 v).take k) (List.replicate (4 - (k + 1)) 0) 0 (Wk.u8 (v.fdiv (2 ^ (8 * (4 - 1 - k)))))
        have h2 : (b ++ (be 4 v).take k).length = n + k := by rw [List.length_append, List.length_take, be_len, hn]; omega
        have h3 : List.replicate (4 - k) (0 : UInt8) = 0 :: List.replicate (4 - (k + 1)) 0 := by rw [show 4 - k = (4 - (k + 1)) + 1 from by omega, List.replicate_succ]
        rw [h2] at h1
        rw [h3, be_take 4 k v hk2]
        simp only [List.append_assoc, List.cons_append, List.nil_append] at h1 ⊢
        exact h1.symm
      rw [List.length_singleton, ← e] at S
      exact ⟨k + 1, S.uu, by omega, S.sub _ _, by omega⟩
    · refine c_exit ?_
      iterate 2 (refine xte ?_)
      refine xbe ?_
      refine xtn ?_
      refine c_seq ?_
      refine c_region ?_
      iterate 2 (refine sq S ?_; clear S; intro a S)
      refine wl_nil ?_
      refine xtn ?_
      refine c_ret ?_
      have hk2 : k = 4 := by simp at h4; omega
      subst hk2
      have hrow := S.row (some ⟨g, 0, none⟩) (n + 4)
      have hnew := S.rowNew (some ⟨g, 0, none⟩) (n + 4)
      refine end1 S (fun _ => ⟨g, rfl, ?_, ?_⟩)
      · exact (hnew _ rfl).elim (fun h => h.elim) id
      · rw [List.take_of_length_le (by rw [be_len]; exact Nat.le_refl _), show List.replicate (4 - 4) (0 : UInt8) = [] from rfl, List.append_nil] at hrow
        exact hrow
theorem put32_c (p : Option Addr) (n c : Nat) (b : List UInt8) (v : Int) (w0 : World) (hn : b.length = n) (hb : n ≤ 1073741824) (hv : 0 ≤ v) (hv' : v ≤ 4294967295) (hs : Stable (fun _ => False) w0 (SlF p (encL b))) :
    Ret Tryz.prog 112 [.slice p n c, .int .u32 v] w0 (fun _ => False) fun r w' => ∃ g, r = .slice (some ⟨g, 0, none⟩) (n + 4) (n + 4) ∧ w0.heap.size ≤ g ∧ w'.ownsRow 0 5 1 (.slice (some ⟨g, 0, none⟩) (n + 4) (n + 4)) (n + 4) (encL (b ++ be 4 v)) := by
  refine enter Tryz.func112 rfl rfl (Wd.begin (fs := [SlF p (encL b)]) (by simpa using hs)) (fun a S => ?_)
  simp only [Tryz.ntmps112, List.length_cons, List.length_nil, Nat.reduceAdd, Nat.reduceSub, List.replicate_succ, List.replicate_zero, List.cons_append, List.nil_append] at S
  refine c_seq ?_
  refine c_region ?_
  refine sq S ?_; clear S; intro a S
  refine wl_nil ?_
  refine xtn ?_
  refine c_seq ?_
  refine c_region ?_
  iterate 2 (refine sq S ?_; clear S; intro a S)
  refine srn S (lay32_c p n c b v _ hn hb hv hv' ((S.fact (Φ := SlF p (encL b)) (by simp)).less fun _ _ h => h.elim)) ?_; clear S; rintro _ a w1 ⟨g, rfl, hg, hown⟩ - S
  refine sq S ?_; clear S; intro a S
  refine wl_nil ?_
  refine xtn ?_
  refine c_ret ?_
  exact end1 S (fun _ => ⟨g, rfl, hg, hown⟩)
theorem lay64_c (p : Option Addr) (n c : Nat) (b : List UInt8) (v : Int) (w0 : World) (hn : b.length = n) (hb : n ≤ 1073741824) (hv : 0 ≤ v) (hv' : v ≤ 18446744073709551615) (hs : Stable (fun _ => False) w0 (SlF p (encL b))) :
    Ret Tryz.prog 281 [.slice p n c, .int .u64 v, .int .i64 8] w0 (fun _ => False) fun r w' => ∃ g, r = .slice (some ⟨g, 0, none⟩) (n + 8) (n + 8) ∧ w0.heap.size ≤ g ∧ w'.ownsRow 0 5 1 (.slice (some ⟨g, 0, none⟩) (n + 8) (n + 8)) (n + 8) (encL (b ++ be 8 v)) := by
  have hln : LenN b n := ⟨hn⟩
  refine enter Tryz.func281 rfl rfl (Wd.begin (fs := [SlF p (encL b)]) (by simpa using hs)) (fun a S => ?_)
  simp only [Tryz.ntmps281, List.length_cons, List.length_nil, Nat.reduceAdd, Nat.reduceSub, List.replicate_succ, List.replicate_zero, List.cons_append, List.nil_append] at S
  refine c_seq ?_
  refine c_region ?_
  refine sq S ?_; clear S; intro a S
  refine wl_nil ?_
  refine xtn ?_
  refine c_seq ?_
  refine c_region ?_
  iterate 4 (refine sq S ?_; clear S; intro a S)
  rw [w64 ((n : Int) + 8) (by omega) (by omega)] at S
  refine smk (n + 8) S (by omega) (by omega) (by omega) (by simp only [maxLen]; omega) ?_; clear S; intro g a w S
  refine sq S ?_; clear S; intro a S
  refine wl_nil ?_
  refine xtn ?_
  refine c_seq ?_
  refine c_region ?_
  iterate 2 (refine sq S ?_; clear S; intro a S)
  refine scp S (by omega) ?_; clear S; intro a w S
  rw [drop_rep] at S
  refine wl_nil ?_
  refine xtn ?_
  iterate 2 (refine c_seq ?_)
  refine c_region ?_
  iterate 2 (refine sq S ?_; clear S; intro a S)
  refine wl_nil ?_
  refine xtn ?_
  refine c_block ?_
  rw [show encL b ++ List.replicate 8 (Value.int .u8 0) = encL (b ++ ((be 8 v).take 0 ++ List.replicate (8 - 0) 0)) from by rw [encL_append]; rfl] at S
  refine c_fore1 S (fun (k : Nat) uu => [(8, uu 8), (9, .int .i64 (k : Nat)), (0, uu 19), (0, uu 20), (0, uu 21), (0, uu 22), (0, uu 23), (0, uu 24), (0, uu 25), (0, uu 26), (0, uu 27), (0, uu 28), (0, uu 29), (0, uu 30), (0, uu 31), (0, uu 32), (0, uu 33), (0, uu 34), (0, uu 35)]) (fun (k : Nat) => [Wk.row 5 1 (some ⟨g, 0, none⟩) (n + 8) (n + 8) (encL (b ++ ((be 8 v).take k ++ List.replicate (8 - k) 0)))]) (fun (k : Nat) => []) (fun (k : Nat) => k ≤ 8) (fun (k : Nat) => 8 - k) (0) ?_ S.uu ?_ ?_
  · exact Nat.zero_le _
  · first | exact S | exact S.sub _ _
  · clear S; rintro k uu a w hk S
    refine c_seq ?_
    refine c_region ?_
    refine sq S ?_; clear S; intro a S
    refine wl_nil ?_
    refine xtn ?_
    refine c_seq ?_
    refine c_cond S (fun h4 => ?_) (fun h4 => ?_)
    · refine c_skip ?_
      refine xtn ?_
      refine c_seq ?_
      refine c_block ?_
      refine c_seq ?_
      refine c_region ?_
      iterate 2 (refine sq S ?_; clear S; intro a S)
      refine wl_nil ?_
      refine xtn ?_
      refine c_region ?_
      iterate 4 (refine sq S ?_; clear S; intro a S)
      have hk2 : k < 8 := by simp at h4; omega
      refine sq S ?_; clear S; intro a S
      rw [w64 ((n : Int) + (k : Int)) (by omega) (by omega), show (n : Int) + (k : Int) = ((n + k : Nat) : Int) from by omega] at S
      iterate 3 (refine sq S ?_; clear S; intro a S)
      rw [show IntKind.i64.wrap (8 - 1) = (8 - 1 : Int) from rfl] at S
      iterate 2 (refine sq S ?_; clear S; intro a S)
      rw [w64 ((8 - 1 : Int) - (k : Int)) (by omega) (by omega)] at S
      refine sq S ?_; clear S; intro a S
      rw [w64 (8 * ((8 - 1 : Int) - (k : Int))) (by omega) (by omega), show 8 * ((8 - 1 : Int) - (k : Int)) = ((8 * (8 - 1 - k) : Nat) : Int) from by omega] at S
      refine sq S ?_; clear S; intro a S
      rw [show min (8 * (8 - 1 - k)) IntKind.u64.bits = 8 * (8 - 1 - k) from Nat.min_eq_left (by simp only [IntKind.bits]; omega)] at S
      refine sq S ?_; clear S; intro a S
      rw [u8_wrap] at S
      have hK : KLt (n + k) (n + 8) := ⟨by omega⟩
      refine sq S ?_; clear S; intro a S
      rw [show (⟨g, n + k, none⟩ : Addr) = rAddr (some ⟨g, 0, none⟩) (n + k) from by rw [rAddr, Option.getD_some, add_lit]] at S
      refine sws S (n + 8) (by omega) (by omega) ?_; clear S; intro a w S
      refine wl_nil ?_
      refine xbn ?_
      refine xtn ?_
      refine c_region ?_
      iterate 2 (refine sq S ?_; clear S; intro a S)
      refine wl_nil ?_
      refine xtn ?_
      rw [w64 ((k : Int) + 1) (by omega) (by omega)] at S
      have e : encL (b ++ ((be 8 v).take (k + 1) ++ List.replicate (8 - (k + 1)) 0)) = (encL (b ++ ((be 8 v).take k ++ List.replicate (8 - k) 0))).take (n + k) ++ [.int .u8 ((Wk.u8 (v.fdiv (2 ^ (8 * (8 - 1 - k))))).toNat : Int)] ++ (encL (b ++ ((be 8 v).take k ++ List.replicate (8 - k) 0))).drop (n + k + 1) := by
        have h1 := enc_set1 (b ++ (be 8 v).take k) (List.replicate (8 - (k + 1)) 0) 0 (Wk.u8 (v.fdiv (2 ^ (8 * (8 - 1 - k)))))
        have h2 : (b ++ (be 8 v).take k).length = n + k := by rw [List.length_append, List.length_take, be_len, hn]; omega
        have h3 : List.replicate (8 - k) (0 : UInt8) = 0 :: List.replicate (8 - (k + 1)) 0 := by rw [show 8 - k = (8 - (k + 1)) + 1 from by omega, List.replicate_succ]
        rw [h2] at h1
        rw [h3, be_take 8 k v hk2]
        simp only [List.append_assoc, List.cons_append, List.nil_append] at h1 ⊢
        exact h1.symm
      rw [List.length_singleton, ← e] at S
      exact ⟨k + 1, S.uu, by omega, S.sub _ _, by omega⟩
    · refine c_exit ?_
      iterate 2 (refine xte ?_)
      refine xbe ?_
      refine xtn ?_
      refine c_seq ?_
      refine c_region ?_
      iterate 2 (refine sq S ?_; clear S; intro a S)
      refine wl_nil ?_
      refine xtn ?_
      refine c_ret ?_
      have hk2 : k = 8 := by simp at h4; omega
      subst hk2
      have hrow := S.row (some ⟨g, 0, none⟩) (n + 8)
      have hnew := S.rowNew (some ⟨g, 0, none⟩) (n + 8)
      refine end1 S (fun _ => ⟨g, rfl, ?_, ?_⟩)
      · exact (hnew _ rfl).elim (fun h => h.elim) id
      · rw [List.take_of_length_le (by rw [be_len]; exact Nat.le_refl _), show List.replicate (8 - 8) (0 : UInt8) = [] from rfl, List.append_nil] at hrow
        exact hrow
theorem put64_c (p : Option Addr) (n c : Nat) (b : List UInt8) (v : Int) (w0 : World) (hn : b.length = n) (hb : n ≤ 1073741824) (hv : 0 ≤ v) (hv' : v ≤ 18446744073709551615) (hs : Stable (fun _ => False) w0 (SlF p (encL b))) :
    Ret Tryz.prog 272 [.slice p n c, .int .u64 v] w0 (fun _ => False) fun r w' => ∃ g, r = .slice (some ⟨g, 0, none⟩) (n + 8) (n + 8) ∧ w0.heap.size ≤ g ∧ w'.ownsRow 0 5 1 (.slice (some ⟨g, 0, none⟩) (n + 8) (n + 8)) (n + 8) (encL (b ++ be 8 v)) := by
  refine enter Tryz.func272 rfl rfl (Wd.begin (fs := [SlF p (encL b)]) (by simpa using hs)) (fun a S => ?_)
  simp only [Tryz.ntmps272, List.length_cons, List.length_nil, Nat.reduceAdd, Nat.reduceSub, List.replicate_succ, List.replicate_zero, List.cons_append, List.nil_append] at S
  refine c_seq ?_
  refine c_region ?_
  refine sq S ?_; clear S; intro a S
  refine wl_nil ?_
  refine xtn ?_
  refine c_seq ?_
  refine c_region ?_
  iterate 2 (refine sq S ?_; clear S; intro a S)
  refine srn S (lay64_c p n c b v _ hn hb hv hv' ((S.fact (Φ := SlF p (encL b)) (by simp)).less fun _ _ h => h.elim)) ?_; clear S; rintro _ a w1 ⟨g, rfl, hg, hown⟩ - S
  refine sq S ?_; clear S; intro a S
  refine wl_nil ?_
  refine xtn ?_
  refine c_ret ?_
  exact end1 S (fun _ => ⟨g, rfl, hg, hown⟩)
theorem lay16b_c (p : Option Addr) (n c : Nat) (b : List UInt8) (v : Int) (w0 : World) (hn : b.length = n) (hb : n ≤ 1073741824) (hv : 0 ≤ v) (hv' : v ≤ 65535) (hs : Stable (fun _ => False) w0 (SlF p (encL b))) :
    Ret Tryz.prog 164 [.slice p n c, .int .u16 v, .int .i64 2] w0 (fun _ => False) fun r w' => ∃ g, r = .slice (some ⟨g, 0, none⟩) (n + 2) (n + 2) ∧ w0.heap.size ≤ g ∧ w'.ownsRow 0 5 1 (.slice (some ⟨g, 0, none⟩) (n + 2) (n + 2)) (n + 2) (encL (b ++ be 2 v)) := by
  have hln : LenN b n := ⟨hn⟩
  refine enter Tryz.func164 rfl rfl (Wd.begin (fs := [SlF p (encL b)]) (by simpa using hs)) (fun a S => ?_)
  simp only [Tryz.ntmps164, List.length_cons, List.length_nil, Nat.reduceAdd, Nat.reduceSub, List.replicate_succ, List.replicate_zero, List.cons_append, List.nil_append] at S
  refine c_seq ?_
  refine c_region ?_
  refine sq S ?_; clear S; intro a S
  refine wl_nil ?_
  refine xtn ?_
  refine c_seq ?_
  refine c_region ?_
  iterate 4 (refine sq S ?_; clear S; intro a S)
  rw [w64 ((n : Int) + 2) (by omega) (by omega)] at S
  refine smk (n + 2) S (by omega) (by omega) (by omega) (by simp only [maxLen]; omega) ?_; clear S; intro g a w S
  refine sq S ?_; clear S; intro a S
  refine wl_nil ?_
  refine xtn ?_
  refine c_seq ?_
  refine c_region ?_
  iterate 2 (refine sq S ?_; clear S; intro a S)
  refine scp S (by omega) ?_; clear S; intro a w S
  rw [drop_rep] at S
  refine wl_nil ?_
  refine xtn ?_
  iterate 2 (refine c_seq ?_)
  refine c_region ?_
  iterate 2 (refine sq S ?_; clear S; intro a S)
  refine wl_nil ?_
  refine xtn ?_
  refine c_block ?_
  rw [show encL b ++ List.replicate 2 (Value.int .u8 0) = encL (b ++ ((be 2 v).take 0 ++ List.replicate (2 - 0) 0)) from by rw [encL_append]; rfl] at S
  refine c_fore1 S (fun (k : Nat) uu => [(8, uu 8), (9, .int .i64 (k : Nat)), (0, uu 19), (0, uu 20), (0, uu 21), (0, uu 22), (0, uu 23), (0, uu 24), (0, uu 25), (0, uu 26), (0, uu 27), (0, uu 28), (0, uu 29), (0, uu 30), (0, uu 31), (0, uu 32), (0, uu 33), (0, uu 34), (0, uu 35), (0, uu 36)]) (fun (k : Nat) => [Wk.row 5 1 (some ⟨g, 0, none⟩) (n + 2) (n + 2) (encL (b ++ ((be 2 v).take k ++ List.replicate (2 - k) 0)))]) (fun (k : Nat) => []) (fun (k : Nat) => k ≤ 2) (fun (k : Nat) => 2 - k) (0) ?_ S.uu ?_ ?_
  · exact Nat.zero_le _
  · first | exact S | exact S.sub _ _
  · clear S; rintro k uu a w hk S
    refine c_seq ?_
    refine c_region ?_
    refine sq S ?_; clear S; intro a S
    refine wl_nil ?_
    refine xtn ?_
    refine c_seq ?_
    refine c_cond S (fun h4 => ?_) (fun h4 => ?_)
    · refine c_skip ?_
      refine xtn ?_
      refine c_seq ?_
      refine c_block ?_
      refine c_seq ?_
      refine c_region ?_
      iterate 2 (refine sq S ?_; clear S; intro a S)
      refine wl_nil ?_
      refine xtn ?_
      refine c_region ?_
      iterate 4 (refine sq S ?_; clear S; intro a S)
      have hk2 : k < 2 := by simp at h4; omega
      refine sq S ?_; clear S; intro a S
      rw [w64 ((n : Int) + (k : Int)) (by omega) (by omega), show (n : Int) + (k : Int) = ((n + k : Nat) : Int) from by omega] at S
      iterate 2 (refine sq S ?_; clear S; intro a S)
      rw [wu64 v (by omega) (by omega)] at S
      iterate 2 (refine sq S ?_; clear S; intro a S)
      rw [show IntKind.i64.wrap (2 - 1) = (2 - 1 : Int) from rfl] at S
      iterate 2 (refine sq S ?_; clear S; intro a S)
      rw [w64 ((2 - 1 : Int) - (k : Int)) (by omega) (by omega)] at S
      refine sq S ?_; clear S; intro a S
      rw [w64 (8 * ((2 - 1 : Int) - (k : Int))) (by omega) (by omega), show 8 * ((2 - 1 : Int) - (k : Int)) = ((8 * (2 - 1 - k) : Nat) : Int) from by omega] at S
      refine sq S ?_; clear S; intro a S
      rw [show min (8 * (2 - 1 - k)) IntKind.u64.bits = 8 * (2 - 1 - k) from Nat.min_eq_left (by simp only [IntKind.bits]; omega)] at S
      refine sq S ?_; clear S; intro a S
      rw [u8_wrap] at S
      have hK : KLt (n + k) (n + 2) := ⟨by omega⟩
      refine sq S ?_; clear S; intro a S
      rw [show (⟨g, n + k, none⟩ : Addr) = rAddr (some ⟨g, 0, none⟩) (n + k) from by rw [rAddr, Option.getD_some, add_lit]] at S
      refine sws S (n + 2) (by omega) (by omega) ?_; clear S; intro a w S
      refine wl_nil ?_
      refine xbn ?_
      refine xtn ?_
      refine c_region ?_
      iterate 2 (refine sq S ?_; clear S; intro a S)
      refine wl_nil ?_
      refine xtn ?_
      rw [w64 ((k : Int) + 1) (by omega) (by omega)] at S
      have e : encL (b ++ ((be 2 v).take (k + 1) ++ List.replicate (2 - (k + 1)) 0)) = (encL (b ++ ((be 2 v).take k ++ List.replicate (2 - k) 0))).take (n + k) ++ [.int .u8 ((Wk.u8 (v.fdiv (2 ^ (8 * (2 - 1 - k))))).toNat : Int)] ++ (encL (b ++ ((be 2 v).take k ++ List.replicate (2 - k) 0))).drop (n + k + 1) := by
        have h1 := enc_set1 (b ++ (be 2 v).take k) (List.replicate (2 - (k + 1)) 0) 0 (Wk.u8 (v.fdiv (2 ^ (8 * (2 - 1 - k)))))
        have h2 : (b ++ (be 2 v).take k).length = n + k := by rw [List.length_append, List.length_take, be_len, hn]; omega
        have h3 : List.replicate (2 - k) (0 : UInt8) = 0 :: List.replicate (2 - (k + 1)) 0 := by rw [show 2 - k = (2 - (k + 1)) + 1 from by omega, List.replicate_succ]
        rw [h2] at h1
        rw [h3, be_take 2 k v hk2]
        simp only [List.append_assoc, List.cons_append, List.nil_append] at h1 ⊢
        exact h1.symm
      rw [List.length_singleton, ← e] at S
      exact ⟨k + 1, S.uu, by omega, S.sub _ _, by omega⟩
    · refine c_exit ?_
      iterate 2 (refine xte ?_)
      refine xbe ?_
      refine xtn ?_
      refine c_seq ?_
      refine c_region ?_
      iterate 2 (refine sq S ?_; clear S; intro a S)
      refine wl_nil ?_
      refine xtn ?_
      refine c_ret ?_
      have hk2 : k = 2 := by simp at h4; omega
      subst hk2
      have hrow := S.row (some ⟨g, 0, none⟩) (n + 2)
      have hnew := S.rowNew (some ⟨g, 0, none⟩) (n + 2)
      refine end1 S (fun _ => ⟨g, rfl, ?_, ?_⟩)
      · exact (hnew _ rfl).elim (fun h => h.elim) id
      · rw [List.take_of_length_le (by rw [be_len]; exact Nat.le_refl _), show List.replicate (2 - 2) (0 : UInt8) = [] from rfl, List.append_nil] at hrow
        exact hrow
theorem put16b_c (p : Option Addr) (n c : Nat) (b : List UInt8) (v : Int) (w0 : World) (hn : b.length = n) (hb : n ≤ 1073741824) (hv : 0 ≤ v) (hv' : v ≤ 65535) (hs : Stable (fun _ => False) w0 (SlF p (encL b))) :
    Ret Tryz.prog 65 [.slice p n c, .int .u16 v] w0 (fun _ => False) fun r w' => ∃ g, r = .slice (some ⟨g, 0, none⟩) (n + 2) (n + 2) ∧ w0.heap.size ≤ g ∧ w'.ownsRow 0 5 1 (.slice (some ⟨g, 0, none⟩) (n + 2) (n + 2)) (n + 2) (encL (b ++ be 2 v)) := by
  refine enter Tryz.func65 rfl rfl (Wd.begin (fs := [SlF p (encL b)]) (by simpa using hs)) (fun a S => ?_)
  simp only [Tryz.ntmps65, List.length_cons, List.length_nil, Nat.reduceAdd, Nat.reduceSub, List.replicate_succ, List.replicate_zero, List.cons_append, List.nil_append] at S
  refine c_seq ?_
  refine c_region ?_
  refine sq S ?_; clear S; intro a S
  refine wl_nil ?_
  refine xtn ?_
  refine c_seq ?_
  refine c_region ?_
  iterate 2 (refine sq S ?_; clear S; intro a S)
  refine srn S (lay16b_c p n c b v _ hn hb hv hv' ((S.fact (Φ := SlF p (encL b)) (by simp)).less fun _ _ h => h.elim)) ?_; clear S; rintro _ a w1 ⟨g, rfl, hg, hown⟩ - S
  refine sq S ?_; clear S; intro a S
  refine wl_nil ?_
  refine xtn ?_
  refine c_ret ?_
  exact end1 S (fun _ => ⟨g, rfl, hg, hown⟩)
end Go.Proofs.YtdakncgafdnjfaaGreat
namespace Go.Proofs.YtdakncgafdnjfaaGreat
open Go Go.Wk
open Go.ChangeShapes Go.WideShapes Go.ChangeAt Go.RowKit
set_option maxRecDepth 100000
theorem own : ownKnob Tryz.prog.godebug = none := by kernel_rfl
theorem laidOut : laidOutB Tryz.prog = true := by kernel_rfl
instance termTy : TermTy Tryz.prog 43 := ⟨⟨_, 3, 9, 41, rfl, rfl, rfl, rfl, rfl, by kernel_rfl, by kernel_rfl, by kernel_rfl, by kernel_rfl⟩⟩
end Go.Proofs.YtdakncgafdnjfaaGreat
namespace Go.Proofs.YtdakncgafdnjfaaGreat
open Go Go.Wk
open Go.ChangeShapes Go.WideShapes Go.ChangeAt Go.RowKit
set_option maxRecDepth 100000
instance troTerm : Tro Tryz.prog 43 LTerm := troT
end Go.Proofs.YtdakncgafdnjfaaGreat
namespace Go.Wk
open Go
theorem bl_irrefl : ∀ s : List UInt8, Op.bytesLess s s = false
  | [] => rfl
  | a :: s => by simp [Op.bytesLess, bl_irrefl s]
theorem bl_tri : ∀ s u : List UInt8, Op.bytesLess s u = true ∨ s = u ∨ Op.bytesLess u s = true
  | [], [] => .inr (.inl rfl)
  | [], _ :: _ => .inl rfl
  | _ :: _, [] => .inr (.inr rfl)
  | a :: s, b :: u => by
    simp only [Op.bytesLess, Bool.or_eq_true, Bool.and_eq_true, decide_eq_true_eq, beq_iff_eq, List.cons.injEq]
    rcases UInt8.lt_or_lt_of_ne (a := a) (b := b) |> fun h => (Classical.em (a = b)).imp id h with rfl | h
    · rcases bl_tri s u with h | h | h
      · exact .inl (.inr ⟨rfl, h⟩)
      · exact .inr (.inl ⟨rfl, h⟩)
      · exact .inr (.inr (.inr ⟨rfl, h⟩))
    · rcases h with h | h
      · exact .inl (.inl h)
      · exact .inr (.inr (.inl h))
theorem bl_asymm : ∀ s u : List UInt8, Op.bytesLess s u = true → Op.bytesLess u s = false
  | [], [], h => by cases h
  | [], _ :: _, _ => rfl
  | _ :: _, [], h => by simp [Op.bytesLess] at h
  | a :: s, b :: u, h => by
    simp only [Op.bytesLess, Bool.or_eq_true, Bool.and_eq_true, decide_eq_true_eq, beq_iff_eq] at h
    rcases h with h | ⟨rfl, h⟩
    · have h1 : ¬ b < a := by intro h2; exact absurd (UInt8.lt_trans h h2) (UInt8.lt_irrefl _)
      have h2 : b ≠ a := by rintro rfl; exact absurd h (UInt8.lt_irrefl _)
      simp [Op.bytesLess, h1, h2]
    · simp [Op.bytesLess, bl_asymm s u h]
theorem bl_trans : ∀ s u v : List UInt8, Op.bytesLess s u = true → Op.bytesLess u v = true → Op.bytesLess s v = true
  | _, [], _, h, _ => by cases ‹List UInt8› <;> simp [Op.bytesLess] at h
  | _, _ :: _, [], _, h => by simp [Op.bytesLess] at h
  | [], _ :: _, _ :: _, _, _ => rfl
  | a :: s, b :: u, c :: v, h, h' => by
    simp only [Op.bytesLess, Bool.or_eq_true, Bool.and_eq_true, decide_eq_true_eq, beq_iff_eq] at h h' ⊢
    rcases h with h | ⟨rfl, h⟩ <;> rcases h' with h' | ⟨rfl, h'⟩
    · exact .inl (UInt8.lt_trans h h')
    · exact .inl h
    · exact .inl h'
    · exact .inr ⟨rfl, bl_trans s u v h h'⟩
class Ascii (m : Int) : Prop where
  lo : 0 ≤ m
  hi : m < 128
section
variable {P : Program} {l : Cx} {bs : List Item} {fs : List (World → Prop)} {x y : Operand} {t t' ty : TypeId} {s u : List UInt8} {m : Int} {k : IntKind}
end
end Go.Wk
namespace Go.Wk
open Go Go.Deep Go.ChangeShapes Go.WideShapes Go.ChangeAt Go.RowKit
section
variable {w0 : World} {M0 : Nat → Prop} {ds : List Deferred} {a : Act} {w : World} {l : List Value} {bs bs' : List Item} {fs : List (World → Prop)}
theorem St.rowToGl {α : Type} [Lay α] (S : St w0 M0 ds a w l bs fs) (p : Option Addr) (xs : List α) {e : TypeId} {sz n c : Nat} [hd : DropI bs (Wk.row e sz p n c (encL xs)) bs'] (h : Stable (foots bs) w (AllI xs)) : St w0 M0 ds a w l bs' (GlF p xs :: fs) := by
  have S1 := S.perm _ hd.perm
  have hap := List.pairwise_cons.1 S1.wd.apart
  have hr : (Wk.row e sz p n c (encL xs)).holds w := S1.wd.held _ (by simp)
  have S2 : St w0 M0 ds a w l bs' fs := ⟨S1.slots, S1.defers, S1.wd.sub (.cons _ (.refl _)) (.refl _)⟩
  refine S2.add fun w' hw' => ⟨SlF.stable (own_sl hr) (fun ad hp ⟨it, hi, hk⟩ => hap.1 it hi ad.block ⟨ad, hp, rfl⟩ hk) w' hw', ?_⟩
  exact (h.less fun k _ ⟨it, hi, hk⟩ => ⟨it, (hd.perm.mem_iff).1 (List.mem_cons_of_mem _ hi), hk⟩) w' hw'
end
section
variable {P : Program} {l : Cx} {bs : List Item} {fs : List (World → Prop)} {x y : Operand} {p : Option Addr} {n c k sz off : Nat} {kk : IntKind} {m : Int} {t ty e : TypeId} {z v : Value} {by_ : Nat}
class CLt (cs : List Bool) (k n : Nat) : Prop where lt : (∀ c ∈ cs, c = true) → k < n
instance (priority := 1100) cltD {cs : List Bool} {k n : Nat} : CLt (decide ((k : Int) < (n : Int)) :: cs) k n := ⟨fun h => by have := h (decide ((k : Int) < (n : Int))) (by simp); simp at this; omega⟩
section
variable {cs : List Bool} {ls : List Value} {α : Type} {i : Lay α} {xs : List α}
instance (priority := 820) opIdxGC [Ev ⟨cs, ls⟩ x (.slice p n c)] [Ev ⟨cs, ls⟩ y (.int kk m)] [Und P t (.slice e)] [TI P e z sz by_] [hm : IsNat m k] [hl : HasG fs p α i xs] [hs : SzE α sz] [hk : CLt cs k n] [hk' : CLt cs k xs.length] :
    OpQ P (.indexAddr t x y) ty ⟨cs, ls⟩ bs fs (.pointer (some (gAddr p k sz 0))) := ⟨fun ρ w h mm => by
  have hlt := hk.lt h.1
  obtain ⟨ad, rfl⟩ := gl_some (hl.of _ _ mm.facts).now (hk'.lt h.1) (by rw [hs.eq]; exact hs.pos)
  have h2 := hm.eq
  subst h2
  simp [xop, execOp, h.ev (x := x) (v := .slice (some ad) n c), h.ev (x := y) (v := .int kk (k : Int))]
  simp [run_indexAt (P := P) (t := t) (e := e) (z := z) (sz := sz) (by_ := by_) (Int.natCast_nonneg k) (Int.ofNat_lt.2 hlt), gAddr]⟩
instance (priority := 760) opLoadG1C {ds : List Value} [Ev ⟨cs, ls⟩ x (.pointer (some (gAddr p k sz off)))] [ha : AggT P t false] [hl : HasG fs p α i xs] [hs : SzE α sz] [hk : CLt cs k xs.length] [hc : CellsOf (nthG xs k) ds] [hn : Nth ds off v] :
    OpQ P (.load t x) ty ⟨cs, ls⟩ bs fs v := ⟨fun ρ w h mm => by
  have h1 := gl_cells (hl.of _ _ mm.facts).now (hk.lt h.1) hn.eq
  simp [xop, execOp, Instr.loadAt, h.ev (x := x) (v := .pointer (some (gAddr p k sz off))), Instr.sureAddr, loadVar, Sem.run_bind, ha.run, load, Sem.run, h1]⟩
instance (priority := 760) opLoadGAC {ds vs : List Value} [Ev ⟨cs, ls⟩ x (.pointer (some (gAddr p k sz off)))] [ha : AggT P t true] [TI P t z n by_] [hl : HasG fs p α i xs] [hs : SzE α sz] [hk : CLt cs k xs.length] [hc : CellsOf (nthG xs k) ds] [hn : Seg ds off n vs] :
    OpQ P (.load t x) ty ⟨cs, ls⟩ bs fs (.agg ⟨vs⟩) := ⟨fun ρ w h mm => by
  have hlc := run_loadCells_list (P := P) w (gAddr p k sz off) vs (fun j v hj => by
    have hjn : j < n := by rw [← hn.eq.1]; exact (List.getElem?_eq_some_iff.1 hj).1
    rw [gAddr_add]
    exact gl_cells (hl.of _ _ mm.facts).now (hk.lt h.1) ((hn.eq.2 j hjn).trans hj))
  rw [hn.eq.1] at hlc
  simp [xop, execOp, Instr.loadAt, h.ev (x := x) (v := .pointer (some (gAddr p k sz off))), Instr.sureAddr, loadVar, Sem.run_bind, ha.run, run_size, hlc]⟩
end
end
def AgF (M : Nat → Prop) (w : World) : World → Prop := fun w' => Agree M w w'
theorem AgF.stable {M : Nat → Prop} {w : World} : Stable M w (AgF M w) := fun _ h => h
section
variable {w0 : World} {M0 : Nat → Prop} {ds : List Deferred} {a : Act} {w : World} {l : List Value} {bs bs' : List Item} {fs : List (World → Prop)}
end
theorem encL_dropG {α : Type} [Enc α] (xs : List α) (m : Nat) : encL (xs.drop m) = (encL xs).drop (m * Enc.sz α) := by
  induction m generalizing xs with
  | zero => simp
  | succ m ih =>
    cases xs with
    | nil => simp [encL]
    | cons x xs =>
      rw [List.drop_succ_cons, ih, encL_cons, show (m + 1) * Enc.sz α = (Enc.cells x).length + m * Enc.sz α from by rw [Enc.len, Nat.add_mul]; omega, ← List.drop_drop, List.drop_left]
theorem GlF.drop {α : Type} [Lay α] {sz : Nat} [hs : SzE α sz] {p : Option Addr} {xs : List α} {w : World} {c : Nat} (m : Nat) (h : GlF p xs w) (hc : xs.length ≤ c) : GlF (if c = m then p else p.map (·.add (m * sz))) (xs.drop m) w := by
  split
  · rename_i he
    rw [List.drop_of_length_le (by omega)]; exact gl_nil
  · refine ⟨⟨fun hp => ?_, fun ad hp j u hj => ?_⟩, fun x hx => h.2 x (List.drop_subset _ _ hx)⟩
    · have : p = none := by cases p with
        | none => rfl
        | some a => cases hp
      rw [encL_dropG, h.1.1 this, List.drop_nil]
    · cases p with
      | none => cases hp
      | some a =>
        obtain rfl : a.add (m * sz) = ad := by simpa using hp
        rw [encL_dropG, List.getElem?_drop, hs.eq] at hj
        rw [Go.Deep.add_add]
        exact h.1.2 a rfl _ _ hj
class PS (p : Option Addr) : Prop where ex : ∃ ad, p = some ad
theorem PS.of {w : World} {e : TypeId} {sz : Nat} {p : Option Addr} {n c : Nat} {xs : List Value} (h : w.ownsRow 0 e sz (.slice p n c) n xs) (hn : 0 < n) : PS p := by
  obtain ⟨g, cur, rfl, _⟩ := own_cells h hn
  exact ⟨_, rfl⟩
section
variable {P : Program} {lc : Cx} {bs : List Item} {fs : List (World → Prop)} {x y : Operand} {p : Option Addr} {n c k sz o : Nat} {kk : IntKind} {m : Int} {t ty e : TypeId} {z : Value} {by_ : Nat}
end
class IfT (P : Program) (t : TypeId) : Prop where eq : P.underlying t = some (.interface (P.methodsAt t))
end Go.Wk
namespace Go.Proofs.YtdakncgafdnjfaaGreat
open Go Go.Wk
set_option synthInstance.maxSize 100000
set_option synthInstance.maxHeartbeats 400000
set_option maxRecDepth 100000
structure PRow where
  name : List UInt8
  term : Term
def goneP (r : PRow) : Bool := sameF r.term zeroT
def charsP (s : List UInt8) : Bool := s.all fun c => decide (33 ≤ c.toNat) && decide (c.toNat ≤ 126)
def fitP (r : PRow) : Bool := decide (1 ≤ r.name.length) && decide (r.name.length ≤ 32) && (goneP r || (decide (checkF r.term = 0) && decide ((nameF r.term).length ≤ 65535)))
def rightP (r : PRow) : Bool := charsP r.name && fitP r
def goodP : List PRow → List PRow → Bool
  | _, [] => true
  | pre, r :: l => rightP r && !(pre.any fun x => decide (x.name = r.name)) && goodP (pre ++ [r]) l
def batchP (l : List PRow) : Bool := goodP [] l && decide (l.length ≤ 64)
def rowB (r : PRow) : List UInt8 := [Wk.u8 r.name.length] ++ r.name ++ be 2 ((nameF r.term).length : Int) ++ nameF r.term
def rowsB : List PRow → List UInt8
  | [] => []
  | r :: l => rowB r ++ rowsB l
def encP (l : List PRow) : List UInt8 := Wk.u8 l.length :: rowsB l
def putP : List PRow → PRow → List PRow
  | [], r => if goneP r then [] else [r]
  | x :: xs, r => if x.name = r.name then (if goneP r then xs else r :: xs) else if Op.bytesLess r.name x.name then (if goneP r then x :: xs else r :: x :: xs) else x :: putP xs r
def behP (rows l : List PRow) : List PRow := l.foldl putP rows
def SortedP (l : List PRow) : Prop := (l.map PRow.name).Pairwise fun a b => Op.bytesLess a b = true
theorem behP_cons (rows : List PRow) (r : PRow) (l : List PRow) : behP rows (r :: l) = behP (putP rows r) l := rfl
theorem behP_nil (rows : List PRow) : behP rows [] = rows := rfl
theorem mem_putP : ∀ (l : List PRow) (r x : PRow), x ∈ putP l r → x ∈ l ∨ (x = r ∧ goneP r = false)
  | [], r, x, h => by
    rw [putP] at h
    split at h
    · cases h
    · rename_i hg
      exact .inr ⟨List.mem_singleton.1 h, by simpa using hg⟩
  | y :: l, r, x, h => by
    rw [putP] at h
    split at h
    · split at h
      · exact .inl (.tail _ h)
      · rename_i hg
        rcases List.mem_cons.1 h with h | h
        · exact .inr ⟨h, by simpa using hg⟩
        · exact .inl (.tail _ h)
    · split at h
      · split at h
        · exact .inl h
        · rename_i hg
          rcases List.mem_cons.1 h with h | h
          · exact .inr ⟨h, by simpa using hg⟩
          · exact .inl h
      · rcases List.mem_cons.1 h with h | h
        · exact .inl (h ▸ .head _)
        · rcases mem_putP l r x h with h | h
          · exact .inl (.tail _ h)
          · exact .inr h
theorem putP_len (l : List PRow) (r : PRow) : (putP l r).length ≤ l.length + 1 := by
  induction l with
  | nil => rw [putP]; split <;> simp
  | cons y l ih =>
    rw [putP]
    split
    · split <;> simp <;> omega
    · split
      · split <;> simp
      · simp only [List.length_cons]; omega
theorem behP_len (rows l : List PRow) : (behP rows l).length ≤ rows.length + l.length := by
  induction l generalizing rows with
  | nil => simp [behP]
  | cons r l ih =>
    rw [behP_cons]
    have h1 := ih (putP rows r)
    have h2 := putP_len rows r
    simp only [List.length_cons]; omega
theorem sorted_cons {x : PRow} {l : List PRow} : SortedP (x :: l) ↔ (∀ y ∈ l, Op.bytesLess x.name y.name = true) ∧ SortedP l := by
  unfold SortedP
  rw [List.map_cons, List.pairwise_cons]
  simp
theorem putP_sorted (l : List PRow) (r : PRow) (h : SortedP l) : SortedP (putP l r) := by
  induction l with
  | nil => rw [putP]; split <;> simp [SortedP]
  | cons x l ih =>
    obtain ⟨h1, h2⟩ := sorted_cons.1 h
    rw [putP]
    split
    · rename_i he
      split
      · exact h2
      · exact sorted_cons.2 ⟨fun y hy => by rw [← he]; exact h1 y hy, h2⟩
    · rename_i he
      split
      · rename_i hlt
        split
        · exact h
        · refine sorted_cons.2 ⟨fun y hy => ?_, h⟩
          rcases List.mem_cons.1 hy with rfl | hy
          · exact hlt
          · exact bl_trans _ _ _ hlt (h1 y hy)
      · rename_i hlt
        refine sorted_cons.2 ⟨fun y hy => ?_, ih h2⟩
        rcases mem_putP l r y hy with hy | ⟨rfl, -⟩
        · exact h1 y hy
        · rcases bl_tri x.name y.name with h3 | h3 | h3
          · exact h3
          · exact absurd h3 he
          · exact absurd h3 hlt
theorem behP_sorted (rows l : List PRow) (h : SortedP rows) : SortedP (behP rows l) := by
  induction l generalizing rows with
  | nil => exact h
  | cons r l ih => exact ih _ (putP_sorted _ _ h)
theorem mem_behP (rows l : List PRow) (x : PRow) (h : x ∈ behP rows l) : x ∈ rows ∨ (x ∈ l ∧ goneP x = false) := by
  induction l generalizing rows with
  | nil => exact .inl h
  | cons r l ih =>
    rcases ih _ h with h | h
    · rcases mem_putP _ _ _ h with h | ⟨rfl, h⟩
      · exact .inl h
      · exact .inr ⟨.head _, h⟩
    · exact .inr ⟨.tail _ h.1, h.2⟩
def isAt (o : Option PRow) (s : List UInt8) : Bool := match o with | some x => decide (x.name = s) | none => false
theorem isAt_some (x : PRow) (s : List UInt8) : isAt (some x) s = decide (x.name = s) := rfl
theorem isAt_none (s : List UInt8) : isAt none s = false := rfl
theorem putP_at (l : List PRow) (r : PRow) : ∀ (i : Nat), i ≤ l.length → (∀ m x, m < i → l[m]? = some x → Op.bytesLess x.name r.name = true) → (∀ m x, i ≤ m → l[m]? = some x → Op.bytesLess x.name r.name = false) →
    putP l r = if isAt l[i]? r.name then (if goneP r then l.eraseIdx i else l.set i r) else (if goneP r then l else l.take i ++ [r] ++ l.drop i) := by
  induction l with
  | nil =>
    intro i hi h1 h2
    have hi0 : i = 0 := by simpa using hi
    subst hi0
    rw [putP]; simp [isAt]
  | cons x l ih =>
    intro i hi h1 h2
    cases i with
    | zero =>
      have h3 := h2 0 x (Nat.le_refl _) rfl
      rw [putP]
      by_cases he : x.name = r.name
      · rw [if_pos he]; simp [isAt, he]
      · rw [if_neg he]
        have h4 : Op.bytesLess r.name x.name = true := by
          rcases bl_tri x.name r.name with h5 | h5 | h5
          · rw [h3] at h5; cases h5
          · exact absurd h5 he
          · exact h5
        rw [if_pos h4]; simp [isAt, he]
    | succ i =>
      have h3 := h1 0 x (by omega) rfl
      have he : ¬ x.name = r.name := fun h => by rw [h, bl_irrefl] at h3; cases h3
      have h4 : ¬ Op.bytesLess r.name x.name = true := by rw [bl_asymm _ _ h3]; simp
      rw [putP, if_neg he, if_neg h4, ih i (by simpa using hi) (fun m y hm hy => h1 (m + 1) y (by omega) (by simpa using hy)) (fun m y hm hy => h2 (m + 1) y (by omega) (by simpa using hy))]
      rw [List.getElem?_cons_succ]
      generalize isAt l[i]? r.name = q
      cases q <;> cases goneP r <;> simp
theorem any_false {pre : List PRow} {s : List UInt8} (h : ∀ x ∈ pre, x.name ≠ s) : (pre.any fun x => decide (x.name = s)) = false := by
  rw [List.any_eq_false]
  intro x hx
  simpa using h x hx
theorem goodP_of : ∀ (l pre : List PRow), (∀ r ∈ l, rightP r = true) → ((pre ++ l).map PRow.name).Pairwise (fun a b => a ≠ b) → goodP pre l = true
  | [], _, _, _ => rfl
  | r :: l, pre, h1, h2 => by
    rw [goodP, h1 r (.head _), any_false, goodP_of l (pre ++ [r]) (fun x hx => h1 x (.tail _ hx)) (by simpa using h2)]
    · rfl
    · intro x hx he
      rw [List.map_append, List.pairwise_append] at h2
      exact h2.2.2 x.name (List.mem_map_of_mem hx) r.name (by simp) he
theorem goodP_all : ∀ (l pre : List PRow), goodP pre l = true → ∀ r ∈ l, rightP r = true
  | [], _, _, _, hr => by cases hr
  | x :: l, pre, h, r, hr => by
    rw [goodP, Bool.and_eq_true, Bool.and_eq_true] at h
    rcases List.mem_cons.1 hr with rfl | hr
    · exact h.1.1
    · exact goodP_all l _ h.2 r hr
structure KeptP (l : List PRow) : Prop where
  up : SortedP l
  right : ∀ r ∈ l, rightP r = true
  there : ∀ r ∈ l, goneP r = false
theorem keptP_nil : KeptP [] := ⟨.nil, nofun, nofun⟩
theorem keptP_beh {rows l : List PRow} (h : KeptP rows) (hl : batchP l = true) : KeptP (behP rows l) := by
  rw [batchP, Bool.and_eq_true] at hl
  refine ⟨behP_sorted _ _ h.up, fun r hr => ?_, fun r hr => ?_⟩
  · rcases mem_behP _ _ _ hr with hr | hr
    · exact h.right r hr
    · exact goodP_all _ _ hl.1 r hr.1
  · rcases mem_behP _ _ _ hr with hr | hr
    · exact h.there r hr
    · exact hr.2
theorem keptP_batch {rows : List PRow} (h : KeptP rows) (hl : rows.length ≤ 64) : batchP rows = true := by
  rw [batchP, goodP_of rows [] h.right (by
    refine List.Pairwise.imp (fun {a b} hab he => ?_) h.up
    rw [he, bl_irrefl] at hab; cases hab)]
  simpa using hl
theorem rightP_name {r : PRow} (h : rightP r = true) : 1 ≤ r.name.length ∧ r.name.length ≤ 32 := by
  simp only [rightP, fitP, Bool.and_eq_true, decide_eq_true_eq] at h
  exact h.2.1
theorem nameF_zero : nameF zeroT = [] := by decide
theorem rightP_bytes {r : PRow} (h : rightP r = true) : (nameF r.term).length ≤ 65535 := by
  simp only [rightP, fitP, Bool.and_eq_true, Bool.or_eq_true, decide_eq_true_eq] at h
  rcases h.2.2 with h | h
  · rw [(sameF_iff _ _).1 h, nameF_zero]; simp
  · exact h.2
theorem rowB_len {r : PRow} (h : rightP r = true) : (rowB r).length ≤ 65570 := by
  have h1 := rightP_name h
  have h2 := rightP_bytes h
  simp [rowB, be]; omega
theorem rowsB_len : ∀ (l : List PRow), (∀ r ∈ l, rightP r = true) → (rowsB l).length ≤ 65570 * l.length
  | [], _ => by simp [rowsB]
  | r :: l, h => by
    have h1 := rowB_len (h r (.head _))
    have h2 := rowsB_len l fun x hx => h x (.tail _ hx)
    simp only [rowsB, List.length_append, List.length_cons]; omega
end Go.Proofs.YtdakncgafdnjfaaGreat
namespace Go.Wk
open Go
def RetP (P : Program) (f : Nat) (args : List Value) (w : World) (M : Nat → Prop) (R : Value → World → Prop) (X : List PanicEntry → World → Prop) : Prop :=
  Calls P f args.toArray w fun e w' => (∃ v, e = .returned v ∧ Agree M w w' ∧ R v w') ∨ ∃ ch, e = .panicked ch ∧ Agree M w w' ∧ X ch w'
theorem RetP.mono {P : Program} {f : Nat} {args : List Value} {w : World} {M : Nat → Prop} {R R' : Value → World → Prop} {X X' : List PanicEntry → World → Prop} (h : RetP P f args w M R X) (hr : ∀ v w', R v w' → R' v w') (hx : ∀ c w', X c w' → X' c w') : RetP P f args w M R' X' :=
  Calls.mono h fun _ _ h => h.imp (fun ⟨v, e, ha, hv⟩ => ⟨v, e, ha, hr _ _ hv⟩) fun ⟨c, e, ha, hc⟩ => ⟨c, e, ha, hx _ _ hc⟩
theorem RetP.ret {P : Program} {f : Nat} {args : List Value} {w : World} {M : Nat → Prop} {R : Value → World → Prop} {X : List PanicEntry → World → Prop} (h : RetP P f args w M R X) (hx : ∀ c w', ¬ X c w') : Ret P f args w M R :=
  Calls.mono h fun _ _ h => h.elim id fun ⟨c, _, _, hc⟩ => absurd hc (hx _ _)
def pch (v : Value) : List PanicEntry := [{ v := v, recovered := false }]
section
variable {P : Program} {r : Option Nat} {ops : Array Oper} {Q : Exit → Act → World → Prop} {w0 : World} {M0 : Nat → Prop} {ds : List Deferred} {a : Act} {w : World} {l l' : List Value} {bs bs' : List Item} {fs : List (World → Prop)}
  {d : Option Nat} {op : Op} {ty : TypeId} {pos : String} {af : Array Edge} {rest : List Oper} {v v' G : Value} {f : Nat} {x : Operand} {xs : List Operand} {args : List Value} {ts : Array TypeId} {j g : Nat} {pol : Bool} {cs : List Bool}
theorem cv_anyP [EntF P f] [CallTo ⟨[], l⟩ x xs f args] (S : St w0 M0 ds a w l bs fs) {R : Ending → World → Prop} (hc : Calls P f args.toArray w R)
    (K : ∀ e w', R e w' → (∃ v, e = .returned v ∧ WL P r ops Q rest (a.put d v) w') ∨ ∃ ch, e = .panicked ch ∧ Q (.panic ch) a w') :
    WL P r ops Q (⟨d, .call { callee := .value x, args := xs.toArray, argTypes := ts }, ty, pos, af, none⟩ :: rest) a w := by
  refine wl_plain rfl ?_
  rw [semAt_nd rfl]
  simp only [run_callto (f := f) (args := args) S.fr, Oper.uponIn]
  refine ⟨fun h => (by cases h), trivial, fun cs _ => ?_⟩
  obtain ⟨e, w', fr, hR, hcm, h1, h2⟩ := hc cs
  rcases K e w' hR with ⟨v, rfl, hk⟩ | ⟨ch, rfl, hk⟩
  · exact ⟨.returned v, w', fr, hk, (comesIn_wide (m := lone (Frame.enter P f args.toArray .normal) cs w) (e := .returned v)).2 hcm, h1, h2⟩
  · exact ⟨.panicked ch, w', fr, hk, (comesIn_wide (m := lone (Frame.enter P f args.toArray .normal) cs w) (e := .panicked ch)).2 hcm, h1, h2⟩
theorem srP {l' : Value → List Value} [EntF P f] [CallTo ⟨[], l⟩ x xs f args] [hp : ∀ v, PutO l d v (l' v)] (S : St w0 M0 ds a w l bs fs) {R : Value → World → Prop} {X : List PanicEntry → World → Prop} (hc : RetP P f args w (fun _ => False) R X)
    (Kp : ∀ ch w', X ch w' → St w0 M0 ds a w' l bs fs → Q (.panic ch) a w')
    (K : ∀ v a w', R v w' → St w0 M0 ds a w' (l' v) bs fs → WL P r ops Q rest a w') :
    WL P r ops Q (⟨d, .call { callee := .value x, args := xs.toArray, argTypes := ts }, ty, pos, af, none⟩ :: rest) a w := by
  refine cv_anyP S hc ?_
  rintro e w' (⟨v, rfl, ha, hR⟩ | ⟨ch, rfl, ha, hX⟩)
  · have := hp v
    have S' := S.put (d := d) (v := v)
    exact .inl ⟨v, rfl, K v _ w' hR ⟨S'.slots, S'.defers, S'.wd.step ha⟩⟩
  · exact .inr ⟨ch, rfl, Kp ch w' hX ⟨S.slots, S.defers, S.wd.step ha⟩⟩
theorem sPan {tp : TypeId} [hx : Ev ⟨[], l⟩ x (.iface tp v)] (S : St w0 M0 ds a w l bs fs) (h : St w0 M0 ds a w l bs fs → Q (.panic (pch (.iface tp v))) a w) : WL P r ops Q (⟨d, .panic x, ty, pos, af, none⟩ :: rest) a w := by
  refine wl_plain rfl ?_
  rw [semAt_nd rfl]
  have hf : a.eval x = .iface tp v := S.fr.ev
  have : (xop a.eval (.panic x) ty).run P w = .halt (.panic (.iface tp v)) w := by
    simp [xop, execOp, hf, Instr.panic, goPanic, Sem.run_bind, Sem.run]
  rw [this]
  exact h S
variable {fn : Func} {R : Value → World → Prop} {X : List PanicEntry → World → Prop} {e : Exit}
theorem endP (h : bodyPost P fn (fun e w' => ∃ v, e = .returned v ∧ Agree M0 w0 w' ∧ R v w') e a w) :
    bodyPost P fn (fun e w' => (∃ v, e = .returned v ∧ Agree M0 w0 w' ∧ R v w') ∨ ∃ ch, e = .panicked ch ∧ Agree M0 w0 w' ∧ X ch w') e a w := by
  cases e <;> simp only [bodyPost] at h ⊢ <;> first | exact h | skip
  · exact ⟨h.1, h.2.choose, h.2.choose_spec.1, .inl h.2.choose_spec.2⟩
  · exact ⟨h.1, h.2.choose, h.2.choose_spec.1, .inl h.2.choose_spec.2⟩
  · exact ⟨h.1, .inl h.2⟩
  · exact .inl h
theorem endX {ch : List PanicEntry} (S : St w0 M0 [] a w l bs fs) (h : X ch w) :
    bodyPost P fn (fun e w' => (∃ v, e = .returned v ∧ Agree M0 w0 w' ∧ R v w') ∨ ∃ ch, e = .panicked ch ∧ Agree M0 w0 w' ∧ X ch w') (.panic ch) a w :=
  ⟨S.defers, .inr ⟨ch, rfl, S.wd.agree, h⟩⟩
theorem enterD {f : Nat} {fn : Func} {c : Code} {args : List Value} {l : List Value} {R : Ending → World → Prop} {M0 : Nat → Prop} {bs : List Item} {fs : List (World → Prop)}
    (hf : P.funcs[f]? = some fn) (hb : fn.body = some c) (hl : args ++ List.replicate (fn.ntmps - args.length) undef = l) (hw : Wd w M0 w bs fs)
    (h : ∀ a, St w M0 [] a w l bs fs → Wp P none c (bodyPostDIn (FW none) 0 P fn R) a w) : Calls P f args.toArray w R := by
  refine (callsIn_wide (n := 0)).1 (callsIn_of_wp_defers (F := FW none) (n := 0) hf hb trivial (h _ ⟨?_, rfl, hw⟩))
  simp [← hl]
theorem sdef {fi ca : List Value} {l' : List Value} [hx : Ev ⟨[], l⟩ x (.func (.func f) ⟨fi⟩ ⟨ca⟩)] [hp : PutO l d undef l'] (S : St w0 M0 ds a w l bs fs)
    (K : ∀ a, St w0 M0 ({ target := .fn (.func f) ⟨ca⟩, args := ⟨fi⟩ } :: ds) a w l' bs fs → WL P none ops Q rest a w) :
    WL P none ops Q (⟨d, .defer { callee := .value x, args := #[], argTypes := ts }, ty, pos, af, none⟩ :: rest) a w := by
  refine wl_plain rfl ?_
  have hf : a.eval x = .func (.func f) ⟨fi⟩ ⟨ca⟩ := S.fr.ev
  rw [Oper.semAt_none]
  have : (execOp a.eval ⟨d, .defer { callee := .value x, args := #[], argTypes := ts }, ty, pos, af, none⟩).run P w = .ok (.defer { target := .fn (.func f) ⟨ca⟩, args := ⟨fi⟩ }) w := by
    simp [execOp, resolve, hf, Deferred.ofValue]
  rw [this]
  obtain ⟨t, dd⟩ := a
  have := S.slots; simp at this; subst this
  have hd := S.defers; simp at hd; subst hd
  show WL P none ops Q rest _ w
  rw [hp.eq]
  exact K _ ⟨rfl, rfl, S.wd⟩
theorem leaveRet {g : Nat} {ca : List Value} {K : World → Prop} {Rr : Ending → World → Prop} [he : EntF P g] (hd : a.defers = [{ target := .fn (.func g) ⟨ca⟩, args := #[] }])
    (hc : CallsDIn (FW none) 0 P g ca.toArray .returning w fun e u' w' => (∃ v, e = .returned v) ∧ u' = .returning ∧ K w')
    (hk : ∀ w', K w' → ∃ v, (results fn a.tmps).run P w' = .ok v w' ∧ Rr (.returned v) w') (hx : e = .ret ∨ e = .normal := by simp) : bodyPostDIn (FW none) 0 P fn Rr e a w := by
  have key : LeavesIn (FW none) 0 P fn a.tmps Rr a.defers .returning w := by
    rw [hd]
    refine leavesIn_cons (f := g) (args := ca.toArray) (by simp) (fun h => by cases h) ?_ (fun _ _ => trivial) (hc.mono ?_)
    · have := he.run ca.toArray w
      simpa [invoke] using this
    · rintro e u' w' ⟨⟨v, rfl⟩, rfl, hK⟩
      obtain ⟨v, h1, h2⟩ := hk w' hK
      exact ⟨v, h1, h2⟩
  rcases hx with rfl | rfl <;> exact key
theorem leavePan {g : Nat} {ca : List Value} {pv : Value} {K : World → Prop} {Rr : Ending → World → Prop} [he : EntF P g] (hd : a.defers = [{ target := .fn (.func g) ⟨ca⟩, args := #[] }])
    (hc : CallsDIn (FW none) 0 P g ca.toArray (.panicking (pch pv)) w fun e u' w' => (∃ v, e = .returned v) ∧ u' = .panicking [{ v := pv, recovered := true }] ∧ K w')
    (hk : ∀ w', K w' → ∃ v, (results fn a.tmps).run P w' = .ok v w' ∧ Rr (.returned v) w') : bodyPostDIn (FW none) 0 P fn Rr (.panic (pch pv)) a w := by
  show LeavesIn (FW none) 0 P fn a.tmps Rr a.defers (.panicking (pch pv)) w
  rw [hd]
  refine leavesIn_cons (f := g) (args := ca.toArray) (by simp) (fun h => by cases h) ?_ (fun _ _ => trivial) (hc.mono ?_)
  · have := he.run ca.toArray w
    simpa [invoke] using this
  · rintro e u' w' ⟨⟨v, rfl⟩, rfl, hK⟩
    obtain ⟨v, h1, h2⟩ := hk w' hK
    exact ⟨v, h1, h2⟩
theorem callsD_catch {f : Nat} {fn : Func} {rest : Code} {id t6 t3 : Nat} {ty0 ty1 : TypeId} {pos0 pos1 : String} {af0 af1 : Array Edge} {args l : List Value} {l1 l2 : Value → List Value} {u : FrameMode} {w0 : World} {M0 : Nat → Prop} {bs : List Item} {fs : List (World → Prop)} {Rr : Ending → FrameMode → World → Prop}
    (hf : P.funcs[f]? = some fn) (hb : fn.body = some (.seq (.region id #[⟨some t6, .call { callee := .builtin .recover, args := #[], argTypes := #[] }, ty0, pos0, af0, none⟩, ⟨some t3, .assign (.tmp t6), ty1, pos1, af1, none⟩] false) rest))
    (hl : args ++ List.replicate (fn.ntmps - args.length) undef = l) (hw : Wd w0 M0 w bs fs) [hp1 : ∀ x, PutAt l t6 x (l1 x)] [hn1 : ∀ x, Nth (l1 x) t6 x] [hp2 : ∀ x, PutAt (l1 x) t3 x (l2 x)]
    (hu : u = .returning ∨ ∃ pv, u = .panicking (pch pv))
    (h : ∀ (x : Value) (u' : FrameMode), (u = .returning ∧ x = .nilIface ∧ u' = u ∨ ∃ pv, u = .panicking (pch pv) ∧ x = pv ∧ u' = .panicking [{ v := pv, recovered := true }]) →
      ∀ a, St w0 M0 [] a w (l2 x) bs fs → Wp P none rest (fun e a' w' => (e = .normal ∨ e = .ret) ∧ a'.defers = [] ∧ ∃ v, (results fn a'.tmps).run P w' = .ok v w' ∧ Rr (.returned v) u' w') a w) :
    CallsDIn (FW none) 0 P f args.toArray u w Rr := by
  have main : ∀ (c₀ : Frame) (cs : List Frame) (x : Value) (u' : FrameMode), c₀.mode = u →
      (u = .returning ∧ x = .nilIface ∧ u' = u ∨ ∃ pv, u = .panicking (pch pv) ∧ x = pv ∧ u' = .panicking [{ v := pv, recovered := true }]) →
      rest.wpSIn (FW none) 0 P (bodyPostS P fn c₀ cs Rr) ⟨(l2 x).toArray, []⟩ ({ c₀ with mode := u' } :: cs) w := by
    intro c₀ cs x u' _ hx
    refine wpSIn_of_wpIn rfl (wpIn_mono (h x u' hx ⟨(l2 x).toArray, []⟩ ⟨rfl, rfl, hw⟩) fun e a' w' hq => ?_)
    obtain ⟨he, hd, v, h1, h2⟩ := hq
    rcases he with rfl | rfl <;> exact ⟨hd, u', rfl, v, h1, h2⟩
  refine callsDIn_of_wpSIn hf hb trivial fun c₀ cs hc₀ => wpSIn_seq (wpSIn_region ?_)
  have hl' : args.toArray ++ Array.replicate (fn.ntmps - args.toArray.size) undef = l.toArray := by rw [← hl]; simp
  rw [hl']
  have step : ∀ x, ((⟨l.toArray, []⟩ : Act).put (some t6) x).put (some t3) (((⟨l.toArray, []⟩ : Act).put (some t6) x).eval (.tmp t6)) = ⟨(l2 x).toArray, []⟩ := fun x => by
    have e1 : (⟨l.toArray, []⟩ : Act).put (some t6) x = ⟨(l1 x).toArray, []⟩ := (puto1 (l := l) (l' := l1 x) (v := x) (n := t6)).eq []
    have e2 : (⟨(l1 x).toArray, []⟩ : Act).eval (.tmp t6) = x := by
      have := (hn1 x).eq
      simp [Act.eval, Array.getD_eq_getD_getElem?, this]
    rw [e1, e2]
    exact (puto1 (l := l1 x) (l' := l2 x) (v := x) (n := t3)).eq []
  have hr0 : ∀ (a : Act), (execOp a.eval ⟨some t6, .call { callee := .builtin .recover, args := #[], argTypes := #[] }, ty0, pos0, af0, none⟩).run P w = .ok .recover w := fun a => by
    simp [execOp, resolve, invoke, builtin]
  have hr1 : ∀ (a : Act), (execOp a.eval ⟨some t3, .assign (.tmp t6), ty1, pos1, af1, none⟩).run P w = .ok (.value (a.eval (.tmp t6))) w := fun a => by
    simp [execOp]
  have hcs : ({ c₀ with mode := u } : Frame) = c₀ := by subst hc₀; rfl
  rw [show List.range (#[(⟨some t6, .call { callee := .builtin .recover, args := #[], argTypes := #[] }, ty0, pos0, af0, none⟩ : Oper), ⟨some t3, .assign (.tmp t6), ty1, pos1, af1, none⟩] : Array Oper).size = [0, 1] from rfl]
  simp only [wpOpsSIn, List.getElem?_toArray, List.getElem?_cons_zero, List.getElem?_cons_succ, hr0, hr1]
  refine ⟨fun _ _ => trivial, ?_⟩
  rw [if_pos (by rfl)]
  rcases hu with rfl | ⟨pv, rfl⟩
  · have : recoverD (c₀ :: cs) = none := by simp [recoverD, hc₀]
    rw [this]
    refine ⟨fun _ _ => trivial, ?_⟩
    rw [if_pos (by rfl)]
    have hm := main c₀ cs .nilIface .returning hc₀ (.inl ⟨rfl, rfl, rfl⟩)
    rw [hcs] at hm
    rw [← step] at hm
    exact hm
  · have : recoverD (c₀ :: cs) = some (pv, { c₀ with mode := .panicking [{ v := pv, recovered := true }] } :: cs) := by simp [recoverD, hc₀, pch]
    rw [this]
    refine ⟨fun _ _ => trivial, ?_⟩
    rw [if_pos (by rfl)]
    have hm := main c₀ cs pv _ hc₀ (.inr ⟨pv, rfl, rfl, rfl⟩)
    rw [← step] at hm
    exact hm
end
theorem resC {P : Program} {fn : Func} {w0 : World} {M0 : Nat → Prop} {a : Act} {w : World} {l : List Value} {bs : List Item} {fs : List (World → Prop)} [hr : FnRes fn []] (S : St w0 M0 [] a w l bs fs) : (results fn a.tmps).run P w = .ok (.tuple #[]) w := by
  rw [S.slots, results_eq (rs := [])]; simp
theorem res3 {P : Program} {fn : Func} {t : Array Value} {w : World} {l : List Value} {bs : List Item} {r1 r2 r3 : ResultVar} {v1 v2 v3 : Value} [hr : FnRes fn [r1, r2, r3]] (hs : t = l.toArray) [h1 : ResV P l bs r1 v1] [h2 : ResV P l bs r2 v2] [h3 : ResV P l bs r3 v3] (hh : ∀ it ∈ bs, it.holds w) : (results fn t).run P w = .ok (.tuple ⟨[v1, v2, v3]⟩) w := by
  rw [hs, results_eq (rs := [r1, r2, r3])]
  simp [run_res (P := P) (l := l) (bs := bs) (rv := r1) (v := v1) w hh, run_res (P := P) (l := l) (bs := bs) (rv := r2) (v := v2) w hh, run_res (P := P) (l := l) (bs := bs) (rv := r3) (v := v3) w hh]
structure XP where
  keep : List (Nat × Value)
  dss : List Deferred
  XW : List PanicEntry → World → Prop
def XP.at (x : XP) : Exit → Act → World → Prop
  | .panic ch, a, w => (∀ p ∈ x.keep, a.tmps[p.1]? = some p.2) ∧ a.defers = x.dss ∧ x.XW ch w
  | _, _, _ => False
def XP.off (x : XP) (o : Oper) : Prop := ∀ p ∈ x.keep, o.dst ≠ some p.1
theorem XP.put {x : XP} {o : Oper} (h : x.off o) {ch : List PanicEntry} {a : Act} {v : Value} {w : World} (hp : x.at (.panic ch) (a.put o.dst v) w) : x.at (.panic ch) a w := by
  obtain ⟨h1, h2, h3⟩ := hp
  refine ⟨fun p hpk => ?_, ?_, h3⟩
  · have h1 := h1 p hpk
    have h0 := h p hpk
    cases hd : o.dst with
    | none => rw [hd] at h1; exact h1
    | some n =>
      rw [hd] at h1
      have hne : n ≠ p.1 := fun e => h0 (by rw [hd, e])
      simpa [Act.put, Array.getElem?_setIfInBounds, hne] using h1
  · cases hd : o.dst <;> rw [hd] at h2 <;> exact h2
section
variable {P : Program} {ops : Array Oper} {C : World → Prop} {X : XP}
abbrev WNX (P : Program) (ops : Array Oper) (X : XP) (i : Nat) (K : Act → World → Prop) (a : Act) (w : World) : Prop := wpOpIn (FW none) 0 P ops X.at i K a w
theorem YieldsC.wnx {i : Nat} {o : Oper} {v : Value} {a : Act} (hi : ops[i]? = some o) (hy : YieldsC P ops C o v a)
    {K : Act → World → Prop} {w : World} (hC : C w) (h : K (a.put o.dst v) w) : WNX P ops X i K a w := by
  unfold WNX wpOpIn
  simp only [hi]
  rcases hy with ⟨hw, hv⟩ | ⟨hw, rfl⟩
  · simp only [hw, if_true, Oper.wpIn, Oper.semAt_none, hv w hC, Oper.uponIn]; exact ⟨fun _ _ => trivial, h⟩
  · simp only [hw, Bool.false_eq_true, if_false]; exact ⟨fun _ _ => trivial, h⟩
theorem wnx_put {j : Nat} {oi oj : Oper} {v : Value} (hj : ops[j]? = some oj) (hap : oi.apart ops oj = true) (hoff : X.off oi)
    (hsi : ∀ cs b, oi.op ≠ .select cs b) (hsj : ∀ cs b, oj.op ≠ .select cs b) {K : Act → World → Prop} {a : Act} {w : World}
    (hy : YieldsC P ops C oi v a) (h : WNX P ops X j K (a.put oi.dst v) w) :
    WNX P ops X j (fun a' w' => YieldsC P ops C oi v a' ∧ K (a'.put oi.dst v) w') a w := by
  obtain ⟨h1, h2, h3⟩ := Oper.apart_spec hap
  have keep : ∀ (a : Act), YieldsC P ops C oi v a → ∀ u, YieldsC P ops C oi v (a.put oj.dst u) := fun a hy u =>
    hy.of_same (execOp_put oi hsi a oj.dst u h3) (wanted_put oi a oj.dst u h3)
  have keepD : ∀ d, YieldsC P ops C oi v { a with defers := d :: a.defers } := fun d => hy.of_same rfl rfl
  have lets : LetsOut X.at → LetsOut X.at := id
  unfold WNX wpOpIn at *
  simp only [hj] at *
  rw [wanted_put oj a oi.dst v h1] at h
  split
  · rename_i hw
    simp only [hw, if_true] at h
    unfold Oper.wpIn at *
    refine ⟨fun _ _ => trivial, ?_⟩
    have h := h.2
    rw [Oper.semAt_none, execOp_put oj hsj a oi.dst v h1] at h
    rw [Oper.semAt_none]
    generalize (execOp a.eval oj).run P w = r at *
    cases r with
    | ok x w' =>
      cases x <;> simp only [Oper.uponIn] at h ⊢
      case value u => exact ⟨keep a hy u, by rw [← Act.put_comm a v u h2]; exact h⟩
      case skip => exact ⟨keep a hy _, by rw [← Act.put_comm a v undef h2]; exact h⟩
      case defer d =>
        refine ⟨keep _ (keepD d) _, ?_⟩
        rw [← Act.put_comm _ v undef h2, ← Act.put_defers]
        exact h
      case enter f args =>
        refine ⟨h.1, CallsIn.mono h.2 fun e w'' he => ?_⟩
        cases e with
        | returned u => exact ⟨keep a hy u, by rw [← Act.put_comm a v u h2]; exact he⟩
        | panicked c => exact XP.put hoff he
        | outgrown => exact he
      case row row args => exact ⟨h.1, RowsIn.mono h.2 fun u w'' he => ⟨keep a hy u, by rw [← Act.put_comm a v u h2]; exact he⟩⟩
      case round l f tmps assign body =>
        refine ⟨h.1, RoundIn.mono h.2 fun e w'' he => ?_⟩
        cases e with
        | returned u => exact ⟨keep a hy u, by rw [← Act.put_comm a v u h2]; exact he⟩
        | panicked c => exact XP.put hoff he
        | outgrown => exact he
    | halt x w' =>
      cases x <;> simp only [Oper.uponIn] at h ⊢
      case panic u => exact XP.put hoff h
  · rename_i hw
    simp only [hw] at h
    exact ⟨fun _ _ => trivial, keep a hy _, by rw [← Act.put_comm a v undef h2]; exact h.2⟩
variable {R : Act → World → Prop}
variable {r : Option Nat} {Q : Exit → Act → World → Prop} {w0 : World} {M0 : Nat → Prop} {ds : List Deferred} {a : Act} {w : World} {l l' : List Value} {bs bs' bs0 : List Item} {fs fs0 : List (World → Prop)}
  {d : Option Nat} {op : Op} {ty : TypeId} {pos : String} {af : Array Edge} {rest : List Oper} {v v' G : Value} {j g : Nat} {pol : Bool} {cs : List Bool} {n : Nat} {listed : Array Bool}
def XP.offB (x : XP) (ops : Array Oper) : Bool := ops.toList.all fun o => x.keep.all fun p => match o.dst with | some n => !Nat.beq n p.1 | none => true
theorem XP.offB_spec {x : XP} {ops : Array Oper} (h : x.offB ops = true) {i : Nat} {o : Oper} (hi : ops[i]? = some o) : x.off o := by
  intro p hp e
  have h1 := List.all_eq_true.1 (List.all_eq_true.1 h o (by rw [← Array.getElem?_toList] at hi; exact List.mem_of_getElem? hi)) p hp
  rw [e] at h1
  simp at h1
variable {ord : List (Nat × Bool)} {i : Nat}
theorem XP.of {ch : List PanicEntry} {K : Prop} (S : St w0 M0 ds a w l bs fs) (hk : ∀ p ∈ X.keep, l[p.1]? = some p.2) (hd : ds = X.dss) (h : X.XW ch w) : K ∨ X.at (.panic ch) a w :=
  .inr ⟨fun p hp => by rw [S.slots]; simpa using hk p hp, by rw [S.defers, hd], h⟩
theorem wnx_round {i : Nat} {K : Act → World → Prop} (hQ : ∀ ch a w, X.at (.panic ch) a w → Q (.panic ch) a w) (hd : ∀ (i : Nat) o, ops[i]? = some o → isDefer o.op = false) (h : WNX P ops X i K a w) : wpOpIn (FW r) 0 P ops Q i K a w := by
  unfold WNX wpOpIn at *
  cases ho : ops[i]? with
  | none => simp only [ho] at h ⊢; exact h
  | some o =>
    simp only [ho] at h ⊢
    split
    · rename_i hw
      rw [if_pos hw] at h
      refine ⟨fun _ _ => trivial, ?_⟩
      have h := h.2
      rw [show (FW none).round = none from rfl] at h
      rw [show (FW r).round = r from rfl, semAt_any (hd i o ho)]
      generalize (o.semAt none a.eval).run P w = q at *
      cases q with
      | ok x w' =>
        cases x <;> simp only [Oper.uponIn] at h ⊢ <;> first | exact h | skip
        case enter f args =>
          refine ⟨fun h => (by cases h), trivial, fun cs _ => ?_⟩
          obtain ⟨e, w', fr, hR, hcm, h1, h2⟩ := h.2.2 cs (room_wide _)
          refine ⟨e, w', fr, ?_, hcm, h1, h2⟩
          cases e with
          | returned v => exact hR
          | panicked c => exact hQ _ _ _ hR
          | outgrown => obtain ⟨_, _, hR⟩ := hR; exact hR.elim
        case round l f tmps assign body =>
          refine ⟨fun h => (by cases h), trivial, fun c cs _ => ?_⟩
          obtain ⟨e, w', hR, hcm⟩ := h.2.2 c cs (room_wide _)
          refine ⟨e, w', ?_, hcm⟩
          cases e with
          | returned v => exact hR
          | panicked c => exact hQ _ _ _ hR
          | outgrown => obtain ⟨_, _, hR⟩ := hR; exact hR.elim
      | halt x w' =>
        cases x <;> simp only [Oper.uponIn] at h ⊢
        case panic u => exact hQ _ _ _ h
    · rename_i hw
      rw [if_neg hw] at h
      exact ⟨fun _ _ => trivial, h.2⟩
end
end Go.Wk
namespace Go.Wk
open Go
def sti (r : Nat) (s : List UInt8) (i : Nat) : Item where
  foot := fun k => k = r
  holds := fun w => w.heap[r]? = some (.stringIter ⟨s.toArray⟩ i)
class HasSti (bs : List Item) (r : Nat) (s : outParam (List UInt8)) (i : outParam Nat) : Prop where mem : sti r s i ∈ bs
section
variable {P : Program} {r0 : Option Nat} {ops : Array Oper} {Q : Exit → Act → World → Prop} {w0 : World} {M0 : Nat → Prop} {ds : List Deferred} {a : Act} {w : World} {l : List Value} {bs : List Item} {fs : List (World → Prop)}
  {d : Option Nat} {op : Op} {ty : TypeId} {pos : String} {af : Array Edge} {rest : List Oper} {t kt et : TypeId} {x : Operand} {b r i : Nat} {s : List UInt8}
end
instance opNilN {P : Program} {l : Cx} {bs : List Item} {fs : List (World → Prop)} {x : Operand} {t t' ty : TypeId} [Ev l x .nilIface] [hi : IfT P t] : OpQ P (.binOp .neq t x (.const .nilIface) t') ty l bs fs (.bool false) := ⟨fun ρ w h _ => by
  have e2 : ρ (.const .nilIface) = .nilIface := h.ev (x := .const .nilIface) (v := .nilIface)
  simp [xop, execOp, h.ev (x := x) (v := .nilIface), e2, eqGuard, binOp, Sem.run_bind, run_equal_nil_nil w t hi.eq]⟩
instance opIfN {P : Program} {l : Cx} {bs : List Item} {fs : List (World → Prop)} {x : Operand} {t t' ty : TypeId} {te : TypeId} {pe : Value} [Ev l x (.iface te pe)] [hi : IfT P t] : OpQ P (.binOp .neq t x (.const .nilIface) t') ty l bs fs (.bool true) := ⟨fun ρ w h _ => by
  have e2 : ρ (.const .nilIface) = .nilIface := h.ev (x := .const .nilIface) (v := .nilIface)
  simp [xop, execOp, h.ev (x := x) (v := .iface te pe), e2, eqGuard, binOp, Sem.run_bind, run_equal_held_nil w t te pe hi.eq]⟩
class StT (P : Program) (t : TypeId) : Prop where ex : ∃ fs, P.underlying t = some (.struct fs)
instance opAssert {P : Program} {l : Cx} {bs : List Item} {fs : List (World → Prop)} {x : Operand} {tx t ty : TypeId} {pe : Value} [Ev l x (.iface t pe)] [hs : StT P t] : OpQ P (.typeAssert x tx t true) ty l bs fs (.tuple ⟨[pe, .bool true]⟩) := ⟨fun ρ w h _ => by
  obtain ⟨fs, hf⟩ := hs.ex
  simp [xop, execOp, h.ev (x := x) (v := .iface t pe), Instr.typeAssert, Sem.run_bind, run_underlying hf w]⟩
instance opMkIf {P : Program} {l : Cx} {bs : List Item} {fs : List (World → Prop)} {x : Operand} {t ty : TypeId} {v : Value} [Ev l x v] [hs : StT P t] : OpQ P (.makeInterface t x) ty l bs fs (.iface t v) := ⟨fun ρ w h _ => by
  obtain ⟨fs, hf⟩ := hs.ex
  simp [xop, execOp, h.ev (x := x) (v := v), Instr.makeInterface, Sem.run_bind, run_underlying hf w]⟩
section
variable {P : Program} {ls : Cx} {bs : List Item} {fs : List (World → Prop)} {x y : Operand} {b off k n sz o o' : Nat} {kk : IntKind} {m : Int} {t ty e : TypeId} {z : Value} {by_ : Nat}
instance (priority := 860) opIdxArr [Ev ls x (.pointer (some ⟨b, off, none⟩))] [Ev ls y (.int kk m)] [hm : IsNat m k] [ht : Und P t (.array n e)] [TI P e z sz by_] [hk : KLt k n] [ho : MulN k sz o] [ho' : AddN off o o'] :
    OpQ P (.indexAddr t x y) ty ls bs fs (.pointer (some ⟨b, o', none⟩)) := ⟨fun ρ w h mm => by
  have e1 := hm.eq
  subst e1
  have h1 : (k : Int) < n := by have := hk.lt; omega
  have e2 : (⟨b, off, none⟩ : Addr).add (k * sz) = ⟨b, o', none⟩ := by rw [ho.eq, ← ho'.eq]; exact add_lit_off b off o
  simp [xop, execOp, h.ev (x := x) (v := .pointer (some ⟨b, off, none⟩)), h.ev (x := y) (v := .int kk (k : Int)), Instr.indexAt, asIntOf, Sem.run_bind, run_und, Instr.sureAddr, h1, run_size, e2, Int.natCast_nonneg]
  intro hle
  have := hk.lt
  omega⟩
end
end Go.Wk
namespace Go.Wk
open Go Go.Deep Go.ChangeShapes Go.WideShapes Go.ChangeAt Go.RowKit
structure A3 (α : Type) where
  a : α
  b : α
  c : α
def A3.l {α : Type} (x : A3 α) : List α := [x.a, x.b, x.c]
instance encA3 {α : Type} [i : Lay α] : Enc (A3 α) := ⟨3 * Enc.sz α, fun x => Enc.cells x.a ++ (Enc.cells x.b ++ Enc.cells x.c), fun x => by simp [Enc.len]; omega, fun x u hu => by
  simp only [List.mem_append] at hu
  rcases hu with h | h | h <;> exact Enc.one _ _ h⟩
instance layA3 {α : Type} [i : Lay α] : Lay (A3 α) := { encA3 with
  dflt := ⟨Lay.dflt, Lay.dflt, Lay.dflt⟩
  inn := fun w x => Lay.inn w x.a ∧ Lay.inn w x.b ∧ Lay.inn w x.c
  mono := fun w w' x h hx => ⟨Lay.mono w w' _ h hx.1, Lay.mono w w' _ h hx.2.1, Lay.mono w w' _ h hx.2.2⟩ }
end Go.Wk
namespace Go.Wk
open Go
section
variable {P : Program} {r : Option Nat} {ops : Array Oper} {Q : Exit → Act → World → Prop} {w0 : World} {M0 : Nat → Prop} {ds : List Deferred} {a : Act} {w : World} {l : List Value} {bs bs' : List Item} {fs : List (World → Prop)}
  {d : Option Nat} {op : Op} {ty : TypeId} {pos : String} {af : Array Edge} {rest : List Oper} {v : Value} {t e : TypeId} {sz by_ c : Nat} {z : Value} {xs : List Value} {x y : Operand}
theorem sapzo (p : Option Addr) (n : Nat) {i m : Nat} {mi : Int} {tn : TypeId} {kn k : IntKind} {zc : List Value} {l' : Nat → Nat → List Value} (S : St w0 M0 ds a w l bs fs) [hr : HasRow bs p n e sz c xs] [Ev ⟨[], l⟩ x (.slice p i c)] [Ev ⟨[], l⟩ y (.int k mi)] [hm : IsNat mi m] [ht : Und P t (.slice e)] [htn : Und P tn (.int kn)] [hti : TI P e z sz by_] [hzc : Cells z zc] [hzl : LenIs zc sz]
    [hp : ∀ b c', PutO l d (.slice (some ⟨b, 0, none⟩) (i + m) c') (l' b c')] (hi : i ≤ n) (h0 : 0 < m) (hs : 0 < sz) (hg : c < i + m) (h63 : i + m ≤ maxLen) (h48 : (i + m) * by_ ≤ 140737488355328)
    (K : ∀ b c' zs a w, zs.length = m * sz → St w0 M0 ds a w (l' b c') (row e sz (some ⟨b, 0, none⟩) (i + m) c' (xs.take (i * sz) ++ zs) :: bs) fs → WL P r ops Q rest a w) :
    WL P r ops Q (⟨d, .call { callee := .builtin .append, args := #[x, y], argTypes := #[t, tn] }, ty, pos, af, none⟩ :: rest) a w := by
  refine wl_plain rfl ?_
  rw [semAt_nd rfl]
  obtain ⟨ii, hi', hz', hsize, hby⟩ := hti.ex
  subst hsize hby
  have hmm := hm.eq
  subst hmm
  have h63' := h63
  have hzs : z.cells.size = ii.size := by rw [← Array.length_toList, hzc.eq, hzl.eq]
  have hrow := S.row p n
  have hxl := hrow.1
  have hin := Nat.mul_le_mul_right ii.size hi
  have htl : (xs.take (i * ii.size)).length = i * ii.size := by rw [List.length_take]; omega
  have hold : (Builtin.firstCells ii.size i (.slice p i c)).run P w.drew = .ok (xs.take (i * ii.size)).toArray w.drew := by
    rcases Nat.eq_zero_or_pos n with hn | hn
    · have hi0 : i = 0 := by omega
      subst hi0
      cases p with
      | none => simpa using run_firstCells_none w.drew ii.size 0 0 c
      | some ad => exact run_firstCells_some w.drew ii.size 0 ad 0 c _ (by simp) (fun j u hj => by simp at hj)
    · obtain ⟨g, cur, rfl, hg, hnc, hcs, htk, hcm⟩ := own_cells hrow hn
      refine run_firstCells_some w.drew ii.size i _ i c _ htl (fun j u hj => ?_)
      show w.cell? _ = some u
      rw [add_lit, cell_of_row w g j cur e (0, 0) hg]
      rw [List.getElem?_take] at hj
      split at hj
      · rw [← htk, List.getElem?_take] at hj
        split at hj
        · simpa using hj
        · cases hj
      · cases hj
  have hkb : m * ii.bytes ≤ (i + m) * ii.bytes := Nat.mul_le_mul_right _ (by omega)
  have hrun := Lib.run_append_grow_zeros (P := P) w t tn ty e ii z k kn ht.eq htn.eq hi' hz' p i c _ hold m h0 hs hg (by unfold maxLen at h63; omega) (by omega) (growslice_fits hg h48)
  have e1 : (xop a.eval (.call { callee := .builtin .append, args := #[x, y], argTypes := #[t, tn] }) ty).run P w = .ok (.value (.slice (some ⟨w.heap.size, 0, none⟩) (i + m) (grownCap w (i + m) c e))) (w.drew.alloc (.cells ((xs.take (i * ii.size)).toArray ++ Builtin.zeroCells z.cells m ++ Builtin.zeroCells z.cells (grownCap w (i + m) c e - (i + m))) e)) := by
    simp [xop, execOp, resolve, invoke, builtin, S.fr.ev (x := x) (v := .slice p i c), S.fr.ev (x := y) (v := .int k (m : Int)), Sem.run_bind, hrun]
  simp only [e1, Oper.uponIn]
  have := hp w.heap.size (grownCap w (i + m) c e)
  have S' := S.put (d := d) (v := .slice (some ⟨w.heap.size, 0, none⟩) (i + m) (grownCap w (i + m) c e))
  have hge := grownCap_ge w (i + m) c e
  have hgrow : Grow w (w.drew.alloc (.cells ((xs.take (i * ii.size)).toArray ++ Builtin.zeroCells z.cells m ++ Builtin.zeroCells z.cells (grownCap w (i + m) c e - (i + m))) e)) := (Agree.drawn _ w _).trans (Agree.alloc _ w.drew _)
  have hzl2 : (Builtin.zeroCells z.cells m).toList.length = m * ii.size := by rw [Array.length_toList, size_zeroCells, hzs]
  refine K _ _ ((Builtin.zeroCells z.cells m).toList) _ _ hzl2 ⟨S'.slots, S'.defers, S'.wd.addRow hgrow (e := e) (sz := ii.size) ⟨?_, .inr ⟨w.heap.size, _, _, rfl, Nat.zero_le _, heap_alloc_new w.drew _, hge, grownCap_le_maxLen w (i + m) c e h63', ?_, ?_⟩⟩ (fun ad h => by cases h; exact Nat.le_refl _)⟩
  · rw [List.length_append, htl, hzl2, Nat.add_mul]
  · rw [Array.size_append, Array.size_append, size_zeroCells, size_zeroCells, hzs, List.size_toArray, htl, ← Nat.add_mul, ← Nat.add_mul]; congr 1; omega
  · rw [Array.toList_append, Array.toList_append]
    have : (xs.take (i * ii.size) ++ (Builtin.zeroCells z.cells m).toList).length = (i + m) * ii.size := by rw [List.length_append, htl, hzl2, Nat.add_mul]
    rw [← this]; exact List.take_left
theorem scpo (p : Option Addr) (n : Nat) {lo cnt m nd cd cy : Nat} {q q2 : Option Addr} {tx : TypeId} {l' : List Value} (news : List Value) (S : St w0 M0 ds a w l bs fs) [Ev ⟨[], l⟩ x (.slice q nd cd)] [Ev ⟨[], l⟩ y (.slice q2 m cy)] [ht : Und P t (.slice e)] [hti : TI P e z sz by_] [hr : HasRow bs p n e sz c xs]
    [hrep : ReplI bs (row e sz p n c xs) (row e sz p n c (xs.take (lo * sz) ++ news ++ xs.drop (lo * sz + news.length))) bs'] [hp : PutO l d (.int .i64 cnt) l'] (hcnt : Nat.min m nd = cnt) (hq : 0 < cnt → q = p.map (·.add (lo * sz))) (hlo : lo + cnt ≤ n) (hnl : news.length = cnt * sz) (h1 : ∀ u ∈ news, u.oneCell' = true)
    (hsrc : 0 < cnt → ∃ sa, q2 = some sa ∧ ∀ j u, news[j]? = some u → w.cell? (sa.add j) = some u) (K : ∀ a w, St w0 M0 ds a w l' bs' fs → WL P r ops Q rest a w) :
    WL P r ops Q (⟨d, .call { callee := .builtin .copy, args := #[x, y], argTypes := #[t, tx] }, ty, pos, af, none⟩ :: rest) a w := by
  refine wl_plain rfl ?_
  rw [semAt_nd rfl]
  have hrow := S.row p n
  have S' := S.put (d := d) (v := .int .i64 (cnt : Int)) (l' := l')
  suffices h : ∃ w', (Builtin.copy_ #[t, tx] ty #[.slice q nd cd, .slice q2 m cy]).run P w = .ok (.int .i64 cnt) w' ∧ Agree (fun k => ∃ ad, p = some ad ∧ k = ad.block) w w' ∧ w'.ownsRow 0 e sz (.slice p n c) n (xs.take (lo * sz) ++ news ++ xs.drop (lo * sz + news.length)) by
    obtain ⟨w', hrun, hag, hown⟩ := h
    have e1 : (xop a.eval (.call { callee := .builtin .copy, args := #[x, y], argTypes := #[t, tx] }) ty).run P w = .ok (.value (.int .i64 cnt)) w' := by
      simp [xop, execOp, resolve, invoke, builtin, S.fr.ev (x := x) (v := .slice q nd cd), S.fr.ev (x := y) (v := .slice q2 m cy), Sem.run_bind, hrun]
    simp only [e1, Oper.uponIn]
    exact K _ _ (S.reput (x := row e sz p n c xs) (y := row e sz p n c (xs.take (lo * sz) ++ news ++ xs.drop (lo * sz + news.length))) S'.slots S'.defers rfl hag hown (fun k h => .inl h) (row_foot_lt hown) (row_loc _ _ _ _ _ _))
  have hcells : (Builtin.firstCells sz cnt (.slice q2 m cy)).run P w = .ok news.toArray w := by
    rcases Nat.eq_zero_or_pos cnt with h0 | h0
    · subst h0
      have : news = [] := List.eq_nil_of_length_eq_zero (by simpa using hnl)
      subst this
      cases q2 with
      | none => simpa using run_firstCells_none w sz 0 m cy
      | some ad => exact run_firstCells_some w sz 0 ad m cy _ (by simp) (fun j u hj => by simp at hj)
    · obtain ⟨sa, rfl, hs⟩ := hsrc h0
      exact run_firstCells_some w sz cnt sa m cy _ hnl hs
  have hlen : ∀ w' : World, (Builtin.lenOf (.slice q2 m cy)).run P w' = .ok m w' := fun w' => rfl
  have hpre : ∀ w', (∀ ad, q = some ad → (storeCells ad news).run P w = .ok () w') → (q = none → w' = w) → (Builtin.copy_ #[t, tx] ty #[.slice q nd cd, .slice q2 m cy]).run P w = .ok (.int .i64 cnt) w' := by
    intro w' h2 h3
    cases hqq : q with
    | none =>
      have := h3 hqq
      subst this
      simp [Builtin.copy_, Sem.run_bind, run_und, run_size, hlen, hcnt, hcells, goInt]
    | some ad =>
      simp [Builtin.copy_, Sem.run_bind, run_und, run_size, hlen, hcnt, hcells, h2 ad hqq, goInt]
  rcases Nat.eq_zero_or_pos cnt with h0 | h0
  · subst h0
    have : news = [] := List.eq_nil_of_length_eq_zero (by simpa using hnl)
    subst this
    refine ⟨w, hpre w (fun ad _ => by simp [storeCells]) (fun _ => rfl), Agree.refl _ _, ?_⟩
    simpa using hrow
  · obtain ⟨g, cur, hpp, _⟩ := own_cells hrow (show 0 < n by omega)
    have hqe := hq h0
    have hlm : lo * sz + news.length ≤ n * sz := by rw [hnl, ← Nat.add_mul]; exact Nat.mul_le_mul_right sz hlo
    obtain ⟨w', hrun, hag, hown⟩ := own_set (P := P) hrow (vs := news) (o := lo * sz) hpp hlm h1
    refine ⟨w', hpre w' (fun ad had => ?_) (fun hn => ?_), hag, hown⟩
    · rw [hqe, hpp] at had
      obtain rfl := Option.some.inj had
      show (storeCells ((⟨g, 0, none⟩ : Addr).add (lo * sz)) news).run P w = _
      rw [add_lit]; exact hrun
    · rw [hqe, hpp] at hn; cases hn
theorem own_more {w : World} {p : Option Addr} {n m c : Nat} (h : w.ownsRow 0 e sz (.slice p n c) n xs) (hm : n ≤ m) (hmc : m ≤ c) (h0 : 0 < c) (hn : 0 < n) : ∃ ys, ys.length = (m - n) * sz ∧ w.ownsRow 0 e sz (.slice p m c) m (xs ++ ys) := by
  obtain ⟨g, cur, rfl, hg, hnc, hcs, htk, hcm⟩ := own_cells h hn
  have hmm := Nat.mul_le_mul_right sz hmc
  have hnm := Nat.mul_le_mul_right sz hm
  have hcl : cur.toList.length = c * sz := by rw [Array.length_toList, hcs]
  refine ⟨(cur.toList.take (m * sz)).drop (n * sz), ?_, ?_, .inr ⟨g, c, cur, rfl, Nat.zero_le _, hg, hmc, hcm, hcs, ?_⟩⟩
  · rw [List.length_drop, List.length_take, hcl, Nat.sub_mul]; omega
  · rw [List.length_append, h.1, List.length_drop, List.length_take, hcl]; omega
  · have e1 : xs = (cur.toList.take (m * sz)).take (n * sz) := by rw [List.take_take, ← htk, Nat.min_eq_left hnm]
    conv => rhs; rw [e1]
    rw [List.take_append_drop]
theorem St.rowMore (S : St w0 M0 ds a w l bs fs) (p : Option Addr) (n m : Nat) [hr : HasRow bs p n e sz c xs] (hm : n ≤ m) (hmc : m ≤ c) (hn : 0 < n) : ∃ ys, ys.length = (m - n) * sz ∧ ∀ {bs' : List Item} [ReplI bs (Wk.row e sz p n c xs) (Wk.row e sz p m c (xs ++ ys)) bs'], St w0 M0 ds a w l bs' fs := by
  obtain ⟨ys, h1, h2⟩ := own_more (S.row p n) hm hmc (by omega) hn
  refine ⟨ys, h1, fun {bs'} hrep => ?_⟩
  exact S.reput (x := Wk.row e sz p n c xs) (y := Wk.row e sz p m c (xs ++ ys)) S.slots S.defers rfl (Agree.refl _ _) h2 (fun k h => .inl h) (row_foot_lt h2) (row_loc _ _ _ _ _ _)
theorem run_apart {f : FuncId} {fn : Func} {eN : Array Value → Sem Value} (hf : P.funcs[f]? = some fn) (hname : (fn.name == "runtime.NumGoroutine") = false) (hb : fn.body.isNone = true) (hn : Extern.findNext fn = none) (he : Extern.find fn = some eN) {tS tR : TypeId} (heN : eN = Extern.SlicesOverlaps.overlaps #[tS, tS] #[tR]) [ht : Und P tS (.slice e)] [hti : TI P e z sz by_] {w : World} {b1 b2 o2 n1 c1 n2 c2 : Nat} {k1 k2 : Array Value} {T1 T2 : TypeId} (hne : b1 ≠ b2) (h1 : w.heap[b1]? = some (.cells k1 T1 (0, 0))) (h2 : w.heap[b2]? = some (.cells k2 T2 (0, 0))) (h0 : k2.size ≠ 0) :
    (callFunc f #[.slice (some ⟨b1, 0, none⟩) n1 c1, .slice (some ⟨b2, o2, none⟩) n2 c2]).run P w = .ok (.value (.bool false)) w := by
  rw [run_callFunc_extern hf hname hb hn he, heN, Lib.run_overlaps_apart w tS tR e ht.eq sz (fun w => run_size (P := P) (t := e) (z := z) (b := by_) w) ⟨b1, 0, none⟩ ⟨b2, o2, none⟩ n1 c1 n2 c2 hne T1 T2 k1.size k2.size (by simp [World.shape?, h1]) (by simp [World.shape?, h2]) h0 (by simp [World.frozen?, h1]) (by simp [World.frozen?, h1])]
  rfl
theorem sext {f : FuncId} {ys : List Operand} {vs : List Value} {ts : Array TypeId} {l' : List Value} (S : St w0 M0 ds a w l bs fs) [EvL ⟨[], l⟩ ys vs] [hp : PutO l d v l'] (hrun : (callFunc f vs.toArray).run P w = .ok (.value v) w)
    (K : ∀ a, St w0 M0 ds a w l' bs fs → WL P r ops Q rest a w) :
    WL P r ops Q (⟨d, .call { callee := .value (.func f), args := ys.toArray, argTypes := ts }, ty, pos, af, none⟩ :: rest) a w := by
  refine wl_plain rfl ?_
  rw [semAt_nd rfl]
  have S' := S.put (d := d) (v := v) (l' := l')
  have hev : ys.map a.eval = vs := S.fr.evl
  have e1 : (xop a.eval (.call { callee := .value (.func f), args := ys.toArray, argTypes := ts }) ty).run P w = .ok (.value v) w := by
    simp [xop, execOp, resolve, invoke, Deferred.ofValue, hev, Sem.run_bind, S.fr.ev (x := .func f) (v := .func (.func f) #[] #[]), hrun]
  simp only [e1, Oper.uponIn]
  exact K _ S'
end
end Go.Wk
namespace Go.Wk
open Go
def kiIdx (k : Int) : List (Int × Value) → Nat → Option (Nat × Value)
  | [], _ => none
  | (u, v) :: kv, i => if k = u then some (i, v) else kiIdx k kv (i + 1)
def kiGet (k : Int) (kv : List (Int × Value)) : Option Value := (kiIdx k kv 0).map (·.2)
def kiPut (k : Int) (v : Value) : List (Int × Value) → List (Int × Value)
  | [] => [(k, v)]
  | (u, x) :: kv => if k = u then (u, v) :: kv else (u, x) :: kiPut k v kv
def mpn (b : Nat) (kv : List (Int × Value)) : Item where
  foot := fun k => k = b
  holds := fun w => ∃ es clock, w.heap[b]? = some (.map es clock) ∧ ents es = (kv.map fun x => ((.int .i64 x.1), x.2)) ∧ (∀ e ∈ es.toList, e.born < clock) ∧ (es.toList.map (·.born)).Nodup
theorem mpn_loc (b : Nat) (kv : List (Int × Value)) (w1 w2 : World) (h : ∀ k, (mpn b kv).foot k → w2.heap[k]? = w1.heap[k]?) (h1 : (mpn b kv).holds w1) : (mpn b kv).holds w2 := by
  obtain ⟨es, clock, h2, h3⟩ := h1
  exact ⟨es, clock, by rw [h b rfl]; exact h2, h3⟩
class HasMpn (bs : List Item) (b : Nat) (kv : outParam (List (Int × Value))) : Prop where mem : mpn b kv ∈ bs
instance hmpn0 {b : Nat} {kv : List (Int × Value)} {bs : List Item} : HasMpn (mpn b kv :: bs) b kv := ⟨List.mem_cons_self ..⟩
instance (priority := 900) hmpn1 {b : Nat} {kv : List (Int × Value)} {x : Item} {bs : List Item} [h : HasMpn bs b kv] : HasMpn (x :: bs) b kv := ⟨List.mem_cons_of_mem _ h.mem⟩
def MpnF (b : Nat) (kv : List (Int × Value)) : World → Prop := (mpn b kv).holds
class HasMpnF (fs : List (World → Prop)) (b : Nat) (kv : outParam (List (Int × Value))) : Prop where mem : MpnF b kv ∈ fs
instance hmpnf0 {b : Nat} {kv : List (Int × Value)} {fs : List (World → Prop)} : HasMpnF (MpnF b kv :: fs) b kv := ⟨List.mem_cons_self ..⟩
instance (priority := 900) hmpnf1 {b : Nat} {kv : List (Int × Value)} {Φ : World → Prop} {fs : List (World → Prop)} [h : HasMpnF fs b kv] : HasMpnF (Φ :: fs) b kv := ⟨List.mem_cons_of_mem _ h.mem⟩
class KiOf (bs : List Item) (fs : List (World → Prop)) (b : Nat) (kv : outParam (List (Int × Value))) : Prop where of : ∀ w, Mem w bs fs → (mpn b kv).holds w
instance (priority := 900) kiof1 {b : Nat} {kv : List (Int × Value)} {bs : List Item} {fs : List (World → Prop)} [h : HasMpnF fs b kv] : KiOf bs fs b kv := ⟨fun _ mm => (mm.facts _ h.mem).now⟩
theorem MpnF.stable {w : World} {b : Nat} {kv : List (Int × Value)} {M : Nat → Prop} (h : MpnF b kv w) (hM : ¬ M b) : Stable M w (MpnF b kv) := fun w' hw' => by
  obtain ⟨es, clock, hb, he⟩ := h
  exact ⟨es, clock, by rw [hw'.blk (Array.getElem?_eq_some_iff.1 hb).1 hM]; exact hb, he⟩
theorem same_int (s u : Int) : Instr.sameNow (.int .i64) (.int .i64 s) (.int .i64 u) = some (decide (s = u)) := by
  obtain ⟨r, hr, hiff⟩ := MapKept.sameNow_of_keys (d := (.int .i64)) (a := .int .i64 s) (b := .int .i64 u) (by simp [MapKept.IsKey]) (by simp [MapKept.IsKey])
  rw [hr]
  congr 1
  rw [Bool.eq_iff_iff, hiff]; simp
theorem find_ki (k : Int) : ∀ (l : List MapEntry) (kv : List (Int × Value)) (i : Nat), (l.map fun e => (e.key, e.val)) = (kv.map fun x => ((.int .i64 x.1), x.2)) → Instr.findNow (.int .i64) (.int .i64 k) l i = some (kiIdx k kv i)
  | [], [], i, _ => rfl
  | [], _ :: _, _, h => by simp at h
  | _ :: _, [], _, h => by simp at h
  | e :: l, (u, v) :: kv, i, h => by
    simp only [List.map_cons, List.cons.injEq, Prod.mk.injEq] at h
    obtain ⟨⟨h1, h2⟩, h3⟩ := h
    have hs : Instr.sameNow (.int .i64) (.int .i64 k) e.key = some (decide (k = u)) := by
      rw [h1, same_int]
    rw [Instr.findNow, hs, kiIdx]
    by_cases hk : k = u
    · rw [if_pos hk]; simp [hk, h2]
    · rw [if_neg hk]; simp only [hk, decide_false]
      exact find_ki k l kv (i + 1) h3
theorem kiIdx_some {k : Int} : ∀ {kv : List (Int × Value)} {i j : Nat} {v : Value}, kiIdx k kv i = some (j, v) → i ≤ j ∧ kv[j - i]? = some (k, v)
  | [], i, j, v, h => by simp [kiIdx] at h
  | (u, x) :: kv, i, j, v, h => by
    rw [kiIdx] at h
    split at h
    · rename_i hk
      simp at h
      obtain ⟨rfl, rfl⟩ := h
      simp [hk]
    · have := kiIdx_some h
      refine ⟨by omega, ?_⟩
      rw [show j - i = j - (i + 1) + 1 from by omega]
      simpa using this.2
theorem kiPut_idx {k : Int} {v : Value} : ∀ {kv : List (Int × Value)} {i j : Nat} {x : Value}, kiIdx k kv i = some (j, x) → kiPut k v kv = kv.set (j - i) (k, v)
  | [], i, j, x, h => by simp [kiIdx] at h
  | (u, y) :: kv, i, j, x, h => by
    rw [kiIdx] at h
    rw [kiPut]
    split at h
    · rename_i hk
      simp at h
      obtain ⟨rfl, rfl⟩ := h
      rw [if_pos hk]; simp [hk]
    · rename_i hk
      rw [if_neg hk]
      have h1 := kiIdx_some h
      rw [kiPut_idx h, show j - i = j - (i + 1) + 1 from by omega]
      simp
theorem kiPut_none {k : Int} {v : Value} : ∀ {kv : List (Int × Value)} {i : Nat}, kiIdx k kv i = none → kiPut k v kv = kv ++ [(k, v)]
  | [], i, h => rfl
  | (u, y) :: kv, i, h => by
    rw [kiIdx] at h
    split at h
    · cases h
    · rename_i hk
      rw [kiPut, if_neg hk, kiPut_none h]; rfl
section
variable {P : Program} {r : Option Nat} {ops : Array Oper} {Q : Exit → Act → World → Prop} {w0 : World} {M0 : Nat → Prop} {ds : List Deferred} {a : Act} {w : World} {l l' : List Value} {bs bs' : List Item} {fs : List (World → Prop)}
  {d : Option Nat} {op : Op} {t ty : TypeId} {pos : String} {af : Array Edge} {rest : List Oper} {v z : Value} {e kt et : TypeId} {sz by_ b : Nat} {x y u : Operand} {lc : Cx} {k : Int} {kv : List (Int × Value)}
theorem run_keyI (hk : P.underlying kt = some (.int .i64)) (em : Bool) (w : World) : (Instr.checkKey em 10000 kt (.int .i64 k)).run P w = .ok () w := MapKept.run_checkKey (k := .int .i64 k) hk (by simp [MapKept.IsKey]) em 9999
instance opLookI [Ev lc x (.map (some b))] [Ev lc y (.int .i64 k)] [ht : Und P t (.map kt et)] [hk : Und P kt (.int .i64)] [hz : TI P et z sz by_] [hm : KiOf bs fs b kv] :
    OpQ P (.lookup t x y false) ty lc bs fs ((kiGet k kv).getD z) := ⟨fun ρ w h mm => by
  obtain ⟨es, clock, hb, he, _⟩ := hm.of w mm
  have hf := find_ki k es.toList kv 0 he
  have h1 := MapKept.run_getObj_map (P := P) hb
  have h2 := run_keyI (P := P) (k := k) hk.eq es.isEmpty w
  have h3 := MapKept.run_findKey (P := P) (w := w) hk.eq hf
  have h4 : (Instr.lookup t (.map (some b)) (.int .i64 k) false).run P w = .ok ((kiGet k kv).getD z) w := by
    unfold kiGet
    simp [Instr.lookup, Sem.run_bind, run_und, h1, h2, h3, Result.andThen]
    cases kiIdx k kv 0 with
    | none => simp [Sem.run_bind, run_zero (P := P) (t := et) (z := z) (s := sz) (b := by_)]
    | some q => simp
  simp [xop, execOp, h.ev (x := x) (v := .map (some b)), h.ev (x := y) (v := .int .i64 k), Sem.run_bind, h4]⟩
theorem smmi {l' : Nat → List Value} (S : St w0 M0 ds a w l bs fs) [hp : ∀ b, PutO l d (.map (some b)) (l' b)] (K : ∀ b a w, St w0 M0 ds a w (l' b) (mpn b [] :: bs) fs → WL P r ops Q rest a w) : WL P r ops Q (⟨d, .makeMap t none, ty, pos, af, none⟩ :: rest) a w := by
  refine wl_plain rfl ?_
  rw [semAt_nd rfl]
  have e1 : (xop a.eval (.makeMap t none) ty).run P w = .ok (.value (.map (some w.heap.size))) (w.alloc (.map #[] 0)) := by
    simp [xop, execOp, Instr.makeMap, newObj, Sem.run]
  simp only [e1, Oper.uponIn]
  have := hp w.heap.size
  have S' := S.put (d := d) (v := .map (some w.heap.size))
  have hfoot : ∀ k, (mpn w.heap.size []).foot k → k = w.heap.size := fun _ h => h
  refine K _ _ _ ⟨S'.slots, S'.defers, (S'.wd.step (Agree.alloc _ w _)).more ⟨#[], 0, heap_alloc_new w _, rfl, by simp, by simp⟩ (fun k hk => by rw [hfoot k hk]; exact S'.wd.agree.size) (fun k hk => by rw [hfoot k hk]; simp) (fun it hi k hk hk' => ?_) (fun Φ hΦ w'' hw'' => ?_) (mpn_loc _ _)⟩
  · have := S'.wd.lt it hi k hk'
    rw [hfoot k hk] at this; omega
  · refine S'.wd.facts Φ hΦ w'' (((Agree.alloc _ w _ : Grow w _).mono (fun _ _ h => h.elim)).trans' hw'' fun i hi ⟨it, hm, hk⟩ => ?_)
    rcases List.mem_cons.1 hm with rfl | hm
    · rw [hfoot i hk] at hi; omega
    · exact ⟨it, hm, hk⟩
theorem smui (S : St w0 M0 ds a w l bs fs) [Ev ⟨[], l⟩ x (.map (some b))] [Ev ⟨[], l⟩ y (.int .i64 k)] [Ev ⟨[], l⟩ u v] [ht : Und P t (.map kt et)] [hk : Und P kt (.int .i64)] [hm : HasMpn bs b kv] [hrep : ReplI bs (mpn b kv) (mpn b (kiPut k v kv)) bs'] [hp : PutO l d undef l']
    (K : ∀ a w, St w0 M0 ds a w l' bs' fs → WL P r ops Q rest a w) : WL P r ops Q (⟨d, .mapUpdate t x y u, ty, pos, af, none⟩ :: rest) a w := by
  refine wl_plain rfl ?_
  rw [semAt_nd rfl]
  obtain ⟨es, clock, hb, he, hbn, hnd⟩ : (mpn b kv).holds w := S.wd.held _ hm.mem
  have hf := find_ki k es.toList kv 0 he
  have h1 := MapKept.run_getObj_map (P := P) hb
  have h2 := run_keyI (P := P) (k := k) hk.eq false w
  have h3 := MapKept.run_findKey (P := P) (w := w) hk.eq hf
  have S' := S.put (d := d) (v := undef) (l' := l')
  have key : ∃ es' clock', (Instr.mapUpdate t (.map (some b)) (.int .i64 k) v).run P w = .ok () { w with heap := w.heap.setIfInBounds b (.map es' clock') } ∧ ents es' = ((kiPut k v kv).map fun x => ((.int .i64 x.1), x.2)) ∧ (∀ e ∈ es'.toList, e.born < clock') ∧ (es'.toList.map (·.born)).Nodup := by
    cases hi : kiIdx k kv 0 with
    | none =>
      rw [hi] at h3
      refine ⟨es.push { key := .int .i64 k, val := v, born := clock }, clock + 1, ?_, ?_, ?_, ?_⟩
      · simp [Instr.mapUpdate, Sem.run_bind, run_und, h1, h2, h3, MapKept.run_setObj_map _ hb]
      · rw [kiPut_none hi, List.map_append, ← he]; simp [ents]
      · intro e hem
        simp only [Array.toList_push, List.mem_append, List.mem_singleton] at hem
        rcases hem with hem | rfl
        · have := hbn e hem; omega
        · exact Nat.lt_succ_self _
      · simp only [Array.toList_push, List.map_append, List.map_cons, List.map_nil]
        refine List.nodup_append.2 ⟨hnd, by simp, fun x hx y hy hxy => ?_⟩
        obtain ⟨e, hem, rfl⟩ := List.mem_map.1 hx
        have := hbn e hem
        obtain rfl := List.mem_singleton.1 hy
        omega
    | some q =>
      obtain ⟨j, x0⟩ := q
      rw [hi] at h3
      have h5 := kiIdx_some hi
      have hje : (ents es)[j]? = some (.int .i64 k, x0) := by
        rw [he, List.getElem?_map]
        have := h5.2
        simp at this
        simp [this]
      obtain ⟨en, hen, hen2⟩ : ∃ en, es[j]? = some en ∧ en.key = .int .i64 k := by
        simp only [ents, List.getElem?_map] at hje
        obtain ⟨en, q1, q2⟩ := Option.map_eq_some_iff.1 hje
        simp at q2
        exact ⟨en, by simpa using q1, q2.1⟩
      have hsb : Instr.sameBits 10000 (.int .i64 k) (.int .i64 k) = true := by simp [Instr.sameBits]
      have hborn : (es.modify j fun e => { e with key := .int .i64 k, val := v }).toList.map (·.born) = es.toList.map (·.born) := by
        apply List.ext_getElem?
        intro i
        simp only [List.getElem?_map, Array.getElem?_toList, Array.getElem?_modify]
        by_cases hij : j = i
        · subst hij; rw [if_pos rfl, Option.map_map]; rfl
        · rw [if_neg hij]
      refine ⟨es.modify j fun e => { e with key := .int .i64 k, val := v }, clock, ?_, ?_, fun e hem => ?_, by rw [hborn]; exact hnd⟩
      · simp [Instr.mapUpdate, Sem.run_bind, run_und, h1, h2, h3, hen, hen2, Instr.keyThatStays, hsb, MapKept.run_setObj_map _ hb]
      · rw [kiPut_idx hi, List.map_set, ← he]
        apply List.ext_getElem?
        intro i
        simp only [ents, List.getElem?_map, Array.getElem?_toList, Array.getElem?_modify, List.getElem?_set, Nat.sub_zero]
        by_cases hij : j = i
        · subst hij
          have hlt : j < es.size := (Array.getElem?_eq_some_iff.1 hen).1
          simp [hlt]
        · simp [hij]
      · have hm1 : e.born ∈ es.toList.map (·.born) := by rw [← hborn]; exact List.mem_map.2 ⟨e, hem, rfl⟩
        obtain ⟨e0, he0, h0⟩ := List.mem_map.1 hm1
        rw [← h0]; exact hbn e0 he0
  obtain ⟨es', clock', hrun, hen⟩ := key
  have e1 : (xop a.eval (.mapUpdate t x y u) ty).run P w = .ok .skip { w with heap := w.heap.setIfInBounds b (.map es' clock') } := by
    simp [xop, execOp, S.fr.ev (x := x) (v := .map (some b)), S.fr.ev (x := y) (v := .int .i64 k), S.fr.ev (x := u) (v := v), Sem.run_bind, hrun]
  simp only [e1, Oper.uponIn]
  have hset := MapKept.heap_set (o' := .map es' clock') hb
  have hlt : b < w.heap.size := (Array.getElem?_eq_some_iff.1 hb).1
  exact K _ _ (S.reput (x := mpn b kv) (y := mpn b (kiPut k v kv)) S'.slots S'.defers rfl ⟨rfl, rfl, rfl, by simp, fun i _ hn => hset.2 i hn⟩ ⟨es', clock', hset.1, hen⟩ (fun i h => .inl h) (fun i h => by cases h; simpa using hlt) (mpn_loc _ _))
end
section
variable {P : Program} {ty t t' : TypeId} {l : Cx} {bs : List Item} {fs : List (World → Prop)} {x y : Operand} {e : TypeId}
instance opPnE [Ev l x (.pointer none)] [Ev l y (.pointer none)] [Und P t (.pointer e)] : OpQ P (.binOp .eql t x y t') ty l bs fs (.bool true) := ⟨fun ρ w h _ => by
  simp [xop, execOp, h.ev (x := x) (v := .pointer none), h.ev (x := y) (v := .pointer none), eqGuard, binOp, Sem.run_bind, run_equal (P := P) (t := t) (u := .pointer none) (v := .pointer none) (d := .pointer e) (b := true) w rfl]⟩
instance opPsE {a : Addr} [Ev l x (.pointer (some a))] [Ev l y (.pointer none)] [Und P t (.pointer e)] : OpQ P (.binOp .eql t x y t') ty l bs fs (.bool false) := ⟨fun ρ w h _ => by
  simp [xop, execOp, h.ev (x := x) (v := .pointer (some a)), h.ev (x := y) (v := .pointer none), eqGuard, binOp, Sem.run_bind, run_equal (P := P) (t := t) (u := .pointer (some a)) (v := .pointer none) (d := .pointer e) (b := false) w rfl]⟩
instance opPsN {a : Addr} [Ev l x (.pointer (some a))] [Ev l y (.pointer none)] [Und P t (.pointer e)] : OpQ P (.binOp .neq t x y t') ty l bs fs (.bool true) := ⟨fun ρ w h _ => by
  simp [xop, execOp, h.ev (x := x) (v := .pointer (some a)), h.ev (x := y) (v := .pointer none), eqGuard, binOp, Sem.run_bind, run_equal (P := P) (t := t) (u := .pointer (some a)) (v := .pointer none) (d := .pointer e) (b := false) w rfl]⟩
end
structure Blk where
  l : List UInt8
  h : l.length = 64
deriving DecidableEq
abbrev Blk.cells (b : Blk) : List Value := encL b.l
abbrev vBlk (b : Blk) : Value := .agg ⟨encL b.l⟩
theorem Blk.len (b : Blk) : (encL b.l).length = 64 := by rw [encL_len, b.h]; rfl
instance encBlk : Enc Blk := ⟨64, fun b => encL b.l, Blk.len, fun b u hu => encL_one b.l u hu⟩
theorem Blk.ext {a b : Blk} (h : a.l = b.l) : a = b := by cases a; cases b; simp_all
instance lenBlk {b : Blk} : LenIs (encL b.l) 64 := ⟨b.len⟩
instance (priority := 500) takeW {cs : List Value} {n : Nat} [h : LenIs cs n] : TakeN cs n cs := ⟨h.eq, List.prefix_refl _⟩
instance flatBlk {b : List UInt8} : Flat (encL b) := ⟨encL_one b⟩
instance (priority := 500) sfB {a b : Blk} : SetFront (encL a.l) (encL b.l) (encL b.l) := ⟨by rw [a.len, b.len]; exact Nat.le_refl _, by rw [b.len, List.drop_of_length_le (by rw [a.len]; exact Nat.le_refl _), List.append_nil]⟩
end Go.Wk
namespace Go.Wk
open Go
def u32s (l : List Int) : List Value := l.map (Value.int .u32)
theorem u32s_get {l : List Int} {k : Nat} (h : k < l.length) : (u32s l)[k]? = some (.int .u32 (nthI l k)) := by
  rw [u32s, List.getElem?_map, nthI_get h]; rfl
theorem u32s_len (l : List Int) : (u32s l).length = l.length := by simp [u32s]
theorem u32s_set (l : List Int) (k : Nat) (x : Int) (h : k < l.length) : (u32s l).take k ++ [.int .u32 x] ++ (u32s l).drop (k + 1) = u32s (l.set k x) := by
  unfold u32s
  rw [List.map_set]
  apply List.ext_getElem?
  intro i
  rw [List.getElem?_set]
  by_cases h1 : i < k
  · rw [List.append_assoc, List.getElem?_append_left (by rw [List.length_take, List.length_map]; omega), List.getElem?_take, if_pos h1, if_neg (by omega)]
  · by_cases h2 : i = k
    · subst h2
      rw [if_pos rfl, if_pos (by simpa using h), List.append_assoc, List.getElem?_append_right (by rw [List.length_take, List.length_map]; omega)]
      simp [Nat.min_eq_left (Nat.le_of_lt h)]
    · rw [if_neg (fun h => h2 h.symm), List.append_assoc, List.getElem?_append_right (by rw [List.length_take, List.length_map]; omega), List.length_take, List.length_map, Nat.min_eq_left (by omega), List.getElem?_append_right (by simp; omega), List.getElem?_drop]
      congr 1; simp; omega
instance nthU {l : List Int} {k : Nat} [h : KLt k l.length] : Nth (u32s l) k (.int .u32 (nthI l k)) := ⟨u32s_get h.lt⟩
instance setU {l : List Int} {k : Nat} {x : Int} [h : KLt k l.length] : SetSeg (u32s l) k [.int .u32 x] (u32s (l.set k x)) := ⟨by rw [u32s_len]; exact h.lt, u32s_set l k x h.lt⟩
instance lenU {l : List Int} {n : Nat} [h : LenN l n] : LenIs (u32s l) n := ⟨by rw [u32s_len]; exact h.eq⟩
instance flatU {l : List Int} : Flat (u32s l) := ⟨fun v h => by obtain ⟨x, -, rfl⟩ := List.mem_map.1 h; rfl⟩
instance sfU8 {a b : List Int} [h : LenN a 8] [k : LenN b 8] : SetFront (u32s a) (u32s b) (u32s b) := ⟨by rw [u32s_len, u32s_len, h.eq, k.eq]; exact Nat.le_refl _, by rw [List.drop_of_length_le (by rw [u32s_len, u32s_len, h.eq, k.eq]; exact Nat.le_refl _), List.append_nil]⟩
instance (priority := 1100) addnZ {b : Nat} : AddN 0 b b := ⟨Nat.zero_add b⟩
section
variable {P : Program} {ty t t' : TypeId} {l : Cx} {bs : List Item} {fs : List (World → Prop)} {x y : Operand} {e n k j : Nat} {kk kl : IntKind} {m i : Int} {xs : List Int} {z : Value} {by_ : Nat}
instance opIdxU [Ev l x (.agg ⟨u32s xs⟩)] [Ev l y (.int kk m)] [hm : IsNat m k] [ht : Und P t (.array n e)] [hti : TI P e z 1 by_] [ha : AggT P e false] [hk : KLt k xs.length] [hn : LenN xs n] : OpQ P (.index t x y) ty l bs fs (.int .u32 (nthI xs k)) := ⟨fun ρ w h mm => by
  have e1 := hm.eq
  subst e1
  have hlt := hk.lt
  have e2 : (⟨u32s xs⟩ : Array Value)[k]? = some (.int .u32 (nthI xs k)) := by
    have := u32s_get hlt
    simpa using this
  have e3 : k < (⟨u32s xs⟩ : Array Value).size := by show k < (u32s xs).length; rw [u32s_len]; exact hlt
  simp [xop, execOp, h.ev (x := x) (v := .agg ⟨u32s xs⟩), h.ev (x := y) (v := .int kk (k : Int)), Instr.index, asIntOf, Sem.run_bind, run_und, run_size, part, ha.run, e2]
  rw [if_pos (by rw [← hn.eq]; exact hlt), u32s_get hlt]
  rfl⟩
instance opShl [Ev l x (.int kk m)] [Ev l y (.int kl i)] [hj : IsNat i j] : OpQ P (.binOp .shl t x y t') ty l bs fs (.int kk (kk.wrap (m * 2 ^ (min j kk.bits)))) := ⟨fun ρ w h _ => by
  have h2 := hj.eq
  subst h2
  have h3 : ¬ ((j : Int) < 0) := by omega
  simp [xop, execOp, h.ev (x := x) (v := .int kk m), h.ev (x := y) (v := .int kl (j : Int)), eqGuard, binOp, Op.shift, h3]⟩
end
instance opBuildA {P : Program} {t ty e : TypeId} {l : Cx} {bs : List Item} {fs : List (World → Prop)} {parts : List (Nat × Operand)} {m sz by1 : Nat} {z1 : Value} {z : Value} {n by_ : Nat} {zs cs : List Value} [ht : Und P t (.array m e)] [TI P e z1 sz by1] [TI P t z n by_] [hc : Cells z zs] [hs : SetMany (fun i => some (i * sz, sz)) l zs parts cs] : OpQ P (.build t parts.toArray) ty l bs fs (.agg ⟨cs⟩) := ⟨fun ρ w h _ => by
  have h1 := hs.run ρ h
  have hz : z.cells = zs.toArray := by rw [← hc.eq]
  simp only [xop, execOp, Instr.build, Sem.run_bind, run_zero, Result.andThen_ok, run_und, run_size, hz, List.map_toArray]
  simp [h1]⟩
instance (priority := 1200) opSliceArr {P : Program} {t ty e : TypeId} {lc : Cx} {bs : List Item} {fs : List (World → Prop)} {x : Operand} {ol oh : Option Operand} {b lo hi n sz by_ : Nat} {z : Value} [Ev lc x (.pointer (some ⟨b, 0, none⟩))] [hl : EvB lc ol 0 lo] [hh : EvB lc oh n hi] [ht : Und P t (.array n e)] [TI P e z sz by_] [h2 : LeC hi n] [h3 : LeC lo hi] :
    OpQ P (.slice t x ol oh none) ty lc bs fs (.slice (some (if n = lo then ⟨b, 0, none⟩ else ⟨b, lo * sz, none⟩)) (hi - lo) (n - lo)) := ⟨fun ρ w hf _ => by
  have hb : (Instr.sliceBounds false n n (ol.map ρ) (oh.map ρ) none).run P w = .ok (lo, hi, n) w := by
    rcases hh.eq with ⟨rfl, rfl⟩ | ⟨o2, kk2, rfl, h'⟩
    · rcases hl.eq with ⟨rfl, rfl⟩ | ⟨o3, kk3, rfl, h''⟩
      · simp [Instr.sliceBounds]
      · have e3 := hf.ev (x := o3) (v := .int kk3 (lo : Int))
        simp [Instr.sliceBounds, Sem.run_bind, e3, run_sliceBound h3.le]
    · have e2 := hf.ev (x := o2) (v := .int kk2 (hi : Int))
      rcases hl.eq with ⟨rfl, rfl⟩ | ⟨o3, kk3, rfl, h''⟩
      · simp [Instr.sliceBounds, Sem.run_bind, e2, run_sliceBound h2.le]
      · have e3 := hf.ev (x := o3) (v := .int kk3 (lo : Int))
        simp [Instr.sliceBounds, Sem.run_bind, e2, e3, run_sliceBound h2.le, run_sliceBound h3.le]
  have eX : ρ x = .pointer (some ⟨b, 0, none⟩) := hf.ev
  simp [xop, execOp, Instr.sliceAt, eX, Sem.run_bind, run_und, Instr.sureAddr, hb, run_size, add_lit]⟩
instance opArrP {P : Program} {t ty e : TypeId} {lc : Cx} {bs : List Item} {fs : List (World → Prop)} {x : Operand} {p : Option Addr} {n m c : Nat} [Ev lc x (.slice p n c)] [ht : Und P t (.array m e)] [h : LeC m n] : OpQ P (.sliceToArrayPointer t x) ty lc bs fs (.pointer p) := ⟨fun ρ w hf _ => by
  have hle := h.le
  have h1 : ¬ (n < m) := by omega
  simp [xop, execOp, Instr.arrayAt, hf.ev (x := x) (v := .slice p n c), Sem.run_bind, run_und, h1]⟩
def bxk (b : Nat) (T : TypeId) (l : List Int) (k : Nat) : Item where
  foot := fun i => i = b
  holds := fun w => ∃ v, w.heap[b]? = some (.cells (u32s (l.set k v)).toArray T (0, 0))
instance itBxk {b : Nat} {T : TypeId} {l : List Int} {k : Nat} : ItOk (bxk b T l k) := ⟨fun w1 w2 h ⟨v, h1⟩ => ⟨v, by rw [h b rfl]; exact h1⟩, fun w ⟨v, h⟩ i hi => by obtain rfl : i = b := hi; exact (Array.getElem?_eq_some_iff.1 h).1⟩
class HasBxk (bs : List Item) (b : Nat) (T : outParam TypeId) (l : outParam (List Int)) (k : outParam Nat) : Prop where mem : bxk b T l k ∈ bs
instance hbk0 {b : Nat} {T : TypeId} {l : List Int} {k : Nat} {bs : List Item} : HasBxk (bxk b T l k :: bs) b T l k := ⟨List.mem_cons_self ..⟩
instance (priority := 900) hbk1 {b : Nat} {T : TypeId} {l : List Int} {k : Nat} {x : Item} {bs : List Item} [h : HasBxk bs b T l k] : HasBxk (x :: bs) b T l k := ⟨List.mem_cons_of_mem _ h.mem⟩
class NeK (j k : Nat) : Prop where ne : j ≠ k
theorem bxk_cell {w : World} {b : Nat} {T : TypeId} {l : List Int} {k j : Nat} (h : (bxk b T l k).holds w) (hj : j < l.length) (hn : j ≠ k) : w.cell? ⟨b, j, none⟩ = some (.int .u32 (nthI l j)) := by
  obtain ⟨v, h⟩ := h
  rw [cell_of_row w b j _ T (0, 0) h]
  have h1 := u32s_get (l := l.set k v) (k := j) (by rw [List.length_set]; exact hj)
  have h2 : nthI (l.set k v) j = nthI l j := by simp [nthI, List.getD_eq_getElem?_getD, List.getElem?_set, Ne.symm hn]
  rw [h2] at h1
  simpa using h1
section
variable {P : Program} {r : Option Nat} {ops : Array Oper} {Q : Exit → Act → World → Prop} {w0 : World} {M0 : Nat → Prop} {ds : List Deferred} {a : Act} {w : World} {l l' : List Value} {bs bs' : List Item} {fs : List (World → Prop)}
  {d : Option Nat} {ty t : TypeId} {pos : String} {af : Array Edge} {rest : List Oper} {x y : Operand} {z : Value} {by_ b k j : Nat} {T : TypeId} {xs : List Int}
instance (priority := 820) opLoadBk {lc : Cx} [Ev lc x (.pointer (some ⟨b, j, none⟩))] [hb : HasBxk bs b T xs k] [ha : AggT P t false] [hj : KLt j xs.length] [hn : NeK j k] : OpQ P (.load t x) ty lc bs fs (.int .u32 (nthI xs j)) := ⟨fun ρ w hf mm => by
  have hc := bxk_cell (mm.held _ hb.mem) hj.lt hn.ne
  simp [xop, execOp, Instr.loadAt, hf.ev (x := x) (v := .pointer (some ⟨b, j, none⟩)), Instr.sureAddr, loadVar, Sem.run_bind, ha.run, load, Sem.run, hc]⟩
theorem St.hideK (S : St w0 M0 ds a w l bs fs) (b : Nat) (T : TypeId) (xs : List Int) (k : Nat) (hb : HasBox bs b T (u32s xs)) [hrep : ReplI bs (Wk.box b T (u32s xs)) (bxk b T xs k) bs'] : St w0 M0 ds a w l bs' fs :=
  S.reput (x := Wk.box b T (u32s xs)) (y := bxk b T xs k) S.slots S.defers rfl (Agree.refl _ _) ⟨nthI xs k, by
    have h := S.box b (h := hb)
    have e : xs.set k (nthI xs k) = xs := by
      by_cases hk : k < xs.length
      · rw [nthI, List.getD_eq_getElem?_getD, List.getElem?_eq_getElem hk]; simp
      · rw [List.set_eq_of_length_le (by omega)]
    rw [e]; exact h⟩ (fun _ h => .inl h) (fun i hi => by obtain rfl : i = b := hi; exact (Array.getElem?_eq_some_iff.1 (S.box _ (h := hb))).1) itBxk.loc
theorem St.showK (S : St w0 M0 ds a w l bs fs) (b : Nat) (T : TypeId) (xs ys : List Int) (k : Nat) (hh : w.heap[b]? = some (.cells (u32s ys).toArray T (0, 0))) [hrep : ReplI bs (bxk b T xs k) (Wk.box b T (u32s ys)) bs'] : St w0 M0 ds a w l bs' fs :=
  S.reput (x := bxk b T xs k) (y := Wk.box b T (u32s ys)) S.slots S.defers rfl (Agree.refl _ _) hh (fun _ h => .inl h) (fun i hi => by obtain rfl : i = b := hi; exact (Array.getElem?_eq_some_iff.1 hh).1) (box_loc _ _ _)
theorem swk (b : Nat) (T : TypeId) (xs : List Int) (k : Nat) {m : Int} (S : St w0 M0 ds a w l bs fs) [Ev ⟨[], l⟩ x (.pointer (some ⟨b, k, none⟩))] [Ev ⟨[], l⟩ y (.int .u32 m)] [TI P t z 1 by_] [hrep : ReplI bs (bxk b T xs k) (bxk b T xs k) bs] [hp : PutO l d undef l'] (hk : k < xs.length) (hh : w.heap[b]? = some (.cells (u32s xs).toArray T (0, 0)))
    (K : ∀ a w, w.heap[b]? = some (.cells (u32s (xs.set k m)).toArray T (0, 0)) → St w0 M0 ds a w l' bs fs → WL P r ops Q rest a w) : WL P r ops Q (⟨d, .store t x y, ty, pos, af, none⟩ :: rest) a w := by
  refine wl_plain rfl ?_
  rw [semAt_nd rfl]
  have hrun := run_storeCells_at (P := P) b k T [Value.int .u32 m] 0 (u32s xs).toArray w hh (by simp [u32s_len]; omega) (by intro v hv; obtain rfl := List.mem_singleton.1 hv; rfl)
  simp only [Nat.add_zero, List.length_singleton] at hrun
  have e1 : (xop a.eval (.store t x y) ty).run P w = .ok .skip (w.setRow b ((u32s xs).take k ++ [Value.int .u32 m] ++ (u32s xs).drop (k + 1)).toArray) := by
    have hcs : (Value.int .u32 m).cells = #[Value.int .u32 m] := rfl
    simp [xop, execOp, Instr.storeAt, S.fr.ev (x := x) (v := .pointer (some ⟨b, k, none⟩)), S.fr.ev (x := y) (v := .int .u32 m), Instr.sureAddr, storeVar, run_size, Sem.run_bind, hcs, hrun]
  rw [u32s_set xs k m hk] at e1
  simp only [e1, Oper.uponIn]
  have S' := S.put (d := d) (v := undef) (l' := l')
  have hnew := setRow_heap w b (u32s xs).toArray (u32s (xs.set k m)).toArray T (0, 0) hh
  exact K _ _ hnew (S.reput (x := bxk b T xs k) (y := bxk b T xs k) S'.slots S'.defers rfl (Agree.setRow w b _ rfl) ⟨m, hnew⟩ (fun _ h => .inl h) (itBxk.lt _ ⟨m, hnew⟩) itBxk.loc)
end
section
variable {P : Program} {r : Option Nat} {Q : Exit → Act → World → Prop} {w0 : World} {M0 : Nat → Prop} {ds : List Deferred} {a : Act} {w : World} {l : List Value} {bs : List Item} {fs : List (World → Prop)}
theorem c_drwHe0 {id : Nat} {lo : List Oper} (t : Tr) (S : St w0 M0 ds a w l bs fs) (mods : (Nat → Value) → List (Nat × Value)) {l1 : (Nat → Value) → List Value} [∀ uu, SetG l (mods uu) (l1 uu)] (bs0 : List Item) (bs1 : List Item) (fs1 : List (World → Prop)) (rel : Prop)
    (h : ∀ w', w'.heap = w.heap → St w0 M0 ds a w' l bs fs → AT P lo.toArray (fun w => Wd w0 M0 w bs0 fs) (fun a w => ∃ vv, rel ∧ St w0 M0 ds a w (l1 vv) bs1 fs1) t a w') (hK : ∀ uu a w, rel → St w0 M0 ds a w (l1 uu) bs1 fs1 → Q .normal a w) (hm : P.follows .mixedOrders = true := by kernel_rfl)
    (hd : ((lo.all fun o => !isDefer o.op) && (Nat.beq t.len lo.length && (Region.noSelect lo.toArray && flowT lo.toArray t (Array.replicate lo.length false)))) = true := by kernel_rfl) : Wp P r (.region id lo.toArray true) Q a w := by
  simp only [Bool.and_eq_true] at hd
  refine wpIn_region_any hm (any_of_ac (C := fun w => Wd w0 M0 w bs0 fs) (fun i o ho => ?_) _ _ _ _ ?_)
  · have := List.all_eq_true.1 hd.1 o (by
      rw [List.getElem?_toArray] at ho
      exact List.mem_of_getElem? ho)
    simpa using this
  · have := h { w with drawn := w.drawn + 1 } rfl ⟨S.slots, S.defers, S.wd.step (Agree.drawn _ w _)⟩ _ hd.2.2.1 hd.2.2.2
    rw [Nat.eq_of_beq_eq_true hd.2.1] at this
    have hk : ∀ a w, (∃ vv, rel ∧ St w0 M0 ds a w (l1 vv) bs1 fs1) → Q .normal a w := fun a w h => by obtain ⟨vv, h1, h2⟩ := h; exact hK vv a w h1 h2
    simpa using ac_mono hk _ _ _ _ this
end
theorem zeros_u8 (m : Nat) : (Builtin.zeroCells (Value.int .u8 0).cells m).toList = encL (List.replicate m (0 : UInt8)) := by
  have h1 : ∀ m, encL (List.replicate m (0 : UInt8)) = List.replicate m (Value.int .u8 0) := fun m => by
    induction m with
    | zero => rfl
    | succ m ih => rw [List.replicate_succ, encL_cons, ih, List.replicate_succ]; rfl
  rw [h1]
  apply List.ext_getElem?
  intro i
  rcases Nat.lt_or_ge i m with h | h
  · simp [Builtin.zeroCells, Value.cells, h, Nat.mod_one]
  · simp [Builtin.zeroCells, Value.cells, Nat.not_lt.2 h]
theorem rep_flat (m : Nat) (v : Value) : (List.replicate m [v]).flatten = List.replicate m v := by
  induction m with
  | zero => rfl
  | succ m ih => rw [List.replicate_succ, List.flatten_cons, ih]; rfl
section
variable {P : Program} {r : Option Nat} {ops : Array Oper} {Q : Exit → Act → World → Prop} {w0 : World} {M0 : Nat → Prop} {ds : List Deferred} {a : Act} {w : World} {l : List Value} {bs : List Item} {fs : List (World → Prop)}
  {d : Option Nat} {ty t e : TypeId} {pos : String} {af : Array Edge} {rest : List Oper} {x y : Operand} {by_ c : Nat} {xs : List Value}
theorem sapz1 (p : Option Addr) (n : Nat) {m : Nat} {mi : Int} {tn : TypeId} {kn k : IntKind} {l' : Option Addr → Nat → List Value} {bs' : Option Addr → Nat → List Item} (S : St w0 M0 ds a w l bs fs) [hr : HasRow bs p n e 1 c xs] [Ev ⟨[], l⟩ x (.slice p n c)] [Ev ⟨[], l⟩ y (.int k mi)] [hm : IsNat mi m] [ht : Und P t (.slice e)] [htn : Und P tn (.int kn)] [hti : TI P e (.int .u8 0) 1 by_]
    [hp : ∀ p' c', PutO l d (.slice p' (n + m) c') (l' p' c')] [hrep : ∀ p' c', ReplI bs (row e 1 p n c xs) (row e 1 p' (n + m) c' (xs ++ encL (List.replicate m (0 : UInt8)))) (bs' p' c')] (hn : 0 < n) (h63 : n + m ≤ maxLen) (h48 : (n + m) * by_ ≤ 140737488355328)
    (K : ∀ p' c' a w, St w0 M0 ds a w (l' p' c') (bs' p' c') fs → WL P r ops Q rest a w) :
    WL P r ops Q (⟨d, .call { callee := .builtin .append, args := #[x, y], argTypes := #[t, tn] }, ty, pos, af, none⟩ :: rest) a w := by
  refine wl_plain rfl ?_
  rw [semAt_nd rfl]
  obtain ⟨ii, hi', hz', hsize, hby⟩ := hti.ex
  subst hby
  have hmm := hm.eq
  subst hmm
  have h63' := h63
  have hrow := S.row p n
  have hxl : xs.length = n := by have := hrow.1; omega
  obtain ⟨zs, hzs⟩ : ∃ zs, zs = encL (List.replicate m (0 : UInt8)) := ⟨_, rfl⟩
  have hzl : zs.length = m := by rw [hzs, encL_len, List.length_replicate]; exact Nat.mul_one _
  have hz1 : ∀ u ∈ zs, u.oneCell' = true := by rw [hzs]; exact encL_one _
  have hzz : (Builtin.zeroCells (Value.int .u8 0).cells m).toList = zs := by rw [hzs]; exact zeros_u8 m
  suffices h : ∃ p' c' w', (Builtin.append_ #[t, tn] ty #[.slice p n c, .int k (m : Int)]).run P w = .ok (.slice p' (n + m) c') w' ∧ Agree (fun k => ∃ ad, p = some ad ∧ k = ad.block) w w' ∧ w'.ownsRow 0 e 1 (.slice p' (n + m) c') (n + m) (xs ++ zs) ∧ ∀ ad, p' = some ad → p = some ad ∨ w.heap.size ≤ ad.block by
    obtain ⟨p', c', w', hrun, hag, hown, hnew⟩ := h
    have e1 : (xop a.eval (.call { callee := .builtin .append, args := #[x, y], argTypes := #[t, tn] }) ty).run P w = .ok (.value (.slice p' (n + m) c')) w' := by
      simp [xop, execOp, resolve, invoke, builtin, S.fr.ev (x := x) (v := .slice p n c), S.fr.ev (x := y) (v := .int k (m : Int)), Sem.run_bind, hrun]
    simp only [e1, Oper.uponIn]
    have := hp p' c'
    have := hrep p' c'
    have S' := S.put (d := d) (v := .slice p' (n + m) c') (l' := l' p' c')
    rw [hzs] at hown
    exact K _ _ _ _ (S.reput (x := row e 1 p n c xs) (y := row e 1 p' (n + m) c' (xs ++ encL (List.replicate m (0 : UInt8)))) S'.slots S'.defers rfl hag hown (fun k ⟨ad, h1, h2⟩ => (hnew ad h1).imp (fun h => ⟨ad, h, h2⟩) (fun h => by rw [h2]; exact h)) (row_foot_lt hown) (row_loc _ _ _ _ _ _))
  have hs0 : 0 < ii.size := by omega
  rcases Nat.eq_zero_or_pos m with h0 | h0
  · subst h0
    have hnc := own_le hrow
    have hz0 : zs = [] := List.eq_nil_of_length_eq_zero hzl
    refine ⟨p, c, w, ?_, Agree.refl _ _, by rw [hz0, List.append_nil]; exact hrow, fun _ h => .inl h⟩
    have hw : IntKind.i64.wrap (0 : Int) = 0 := by decide
    cases p <;> simp [Builtin.append_, run_und, run_underlying htn.eq, sizeOf, typeInfo, hi', asInt, asIntOf, hw, hnc, storeCells, Sem.run_bind]
  · by_cases hroom : n + m ≤ c
    · obtain ⟨ys, hyl, hmore⟩ := own_more hrow (Nat.le_add_right n m) hroom (by omega) hn
      obtain ⟨g, cur, hpp, hgc, -⟩ := own_cells hrow hn
      obtain ⟨w', hrun, hag, hown⟩ := own_set (P := P) hmore (vs := zs) (o := n) hpp (by omega) hz1
      have hfin : (xs ++ ys).take n ++ zs ++ (xs ++ ys).drop (n + zs.length) = xs ++ zs := by
        rw [← hxl, List.take_left, List.drop_append, List.drop_of_length_le (by omega), List.nil_append, List.drop_of_length_le (by omega), List.append_nil]
      rw [hfin] at hown
      refine ⟨p, c, w', ?_, hag, hown, fun _ h => .inl h⟩
      have hw : IntKind.i64.wrap (m : Int) = m := by rw [IntKind.wrap_i64]; unfold maxLen at h63; omega
      have hneg : ¬ ((m : Int) < 0) := by omega
      have hns : ¬ (m = 0) := by omega
      have hmb : m * ii.bytes ≤ (n + m) * ii.bytes := Nat.mul_le_mul_right _ (by omega)
      have h48i : ¬ (281474976710656 < (m : Int) * (ii.bytes : Int)) := by rw [← Int.natCast_mul]; omega
      rw [hpp]
      have hst : (storeCells (Addr.add ⟨g, 0, none⟩ n) zs).run P w = .ok () w' := by rw [add_lit]; exact hrun
      have hzz2 : (Builtin.zeroCells (Value.int .u8 0).cells m) = zs.toArray := by rw [← hzz]
      simp [Builtin.append_, run_und, run_underlying htn.eq, sizeOf, typeInfo, zeroValue, hi', hz', hsize, asInt, asIntOf, hw, hneg, hns, h48i, hroom, hzz2, Sem.run_bind, hst]
    · have hold : (Builtin.firstCells ii.size n (.slice p n c)).run P w.drew = .ok xs.toArray w.drew := by
        obtain ⟨g, cur, rfl, hg, hnc, hcs, htk, hcm⟩ := own_cells hrow hn
        refine run_firstCells_some w.drew ii.size n _ n c _ (by rw [hsize]; omega) (fun j u hj => ?_)
        show w.cell? _ = some u
        rw [add_lit, cell_of_row w g j cur e (0, 0) hg]
        rw [← htk, List.getElem?_take] at hj
        split at hj
        · simpa using hj
        · cases hj
      have hmb : m * ii.bytes ≤ (n + m) * ii.bytes := Nat.mul_le_mul_right _ (by omega)
      have hrun := Lib.run_append_grow_zeros (P := P) w t tn ty e ii _ k kn ht.eq htn.eq hi' hz' p n c _ hold m h0 hs0 (by omega) (by unfold maxLen at h63; omega) (by omega) (growslice_fits (by omega) h48)
      have hge := grownCap_ge w (n + m) c e
      have hl2 : (xs ++ zs).length = n + m := by rw [List.length_append]; omega
      have h1z : (Value.int .u8 0).cells.size = 1 := rfl
      refine ⟨_, _, _, hrun, (Agree.drawn _ w _).trans (Agree.alloc _ w.drew _), ⟨by omega, .inr ⟨w.heap.size, _, _, rfl, Nat.zero_le _, heap_alloc_new w.drew _, hge, grownCap_le_maxLen w (n + m) c e h63', ?_, ?_⟩⟩, fun ad h => .inr (by cases h; exact Nat.le_refl _)⟩
      · rw [Array.size_append, Array.size_append, size_zeroCells, size_zeroCells, h1z, List.size_toArray]; omega
      · rw [Array.toList_append, Array.toList_append, hzz]
        show (xs ++ zs ++ _).take _ = _
        rw [show (n + m) * 1 = (xs ++ zs).length from by omega]; exact List.take_left
theorem smkc {mi mj : Int} {kk kl : IntKind} {l' : Nat → List Value} (n m : Nat) (S : St w0 M0 ds a w l bs fs) [Ev ⟨[], l⟩ x (.int kk mi)] [Ev ⟨[], l⟩ y (.int kl mj)] [ht : Und P t (.slice e)] [hti : TI P e (.int .u8 0) 1 by_]
    [hp : ∀ b, PutO l d (.slice (some ⟨b, 0, none⟩) n m) (l' b)] (hi : mi = n) (hj : mj = m) (hnm : n ≤ m) (hb : by_ * m ≤ 281474976710656) (hm : m ≤ maxLen)
    (K : ∀ b a w, St w0 M0 ds a w (l' b) (row e 1 (some ⟨b, 0, none⟩) n m (encL (List.replicate n (0 : UInt8))) :: bs) fs → WL P r ops Q rest a w) : WL P r ops Q (⟨d, .makeSlice t x y, ty, pos, af, none⟩ :: rest) a w := by
  refine wl_plain rfl ?_
  rw [semAt_nd rfl]
  subst hi hj
  obtain ⟨i, hi, hz, hs, hby⟩ := hti.ex
  have hb' : (i.bytes : Int) * (m : Int) ≤ 281474976710656 := by
    have h : ((by_ * m : Nat) : Int) ≤ 281474976710656 := by omega
    rw [hby]; rwa [Int.natCast_mul] at h
  have hr := run_make (P := P) w t e i _ ht.eq hi hz kk kl n m (by omega) (by omega) hb' (by simp only [maxLen] at hm; omega)
  have h1 : ∀ m, encL (List.replicate m (0 : UInt8)) = List.replicate m (Value.int .u8 0) := fun m => by
    induction m with
    | zero => rfl
    | succ m ih => rw [List.replicate_succ, encL_cons, ih, List.replicate_succ]; rfl
  have hcells : madeCells (Value.int .u8 0).cells ((m : Int).toNat * i.size) = (encL (List.replicate m (0 : UInt8))).toArray := by
    have h2 := range_rep m [Value.int .u8 0] (by simp)
    have h3 := rep_flat m (Value.int .u8 0)
    rw [h1, ← h3, ← h2, hs]; rfl
  rw [hcells] at hr
  simp only [Int.toNat_natCast] at hr
  have e1 : (xop a.eval (.makeSlice t x y) ty).run P w = .ok (.value (.slice (some ⟨w.heap.size, 0, none⟩) n m)) (w.alloc (.cells (encL (List.replicate m (0 : UInt8))).toArray e)) := by
    simp [xop, execOp, S.fr.ev (x := x) (v := .int kk (n : Int)), S.fr.ev (x := y) (v := .int kl (m : Int)), Sem.run_bind, hr]
  simp only [e1, Oper.uponIn]
  have := hp w.heap.size
  have S' := S.put (d := d) (v := .slice (some ⟨w.heap.size, 0, none⟩) n m)
  have S2 : St w0 M0 ds _ _ (l' w.heap.size) (box w.heap.size e (encL (List.replicate m (0 : UInt8))) :: bs) fs := ⟨S'.slots, S'.defers, S'.wd.alloc e _⟩
  have hlm : (encL (List.replicate m (0 : UInt8))).length = m := by rw [encL_len, List.length_replicate]; exact Nat.mul_one _
  have S3 := S2.boxRow w.heap.size 1 m (by omega) hm
  have S4 := S3.cutRow (some ⟨w.heap.size, 0, none⟩) n m hnm
  rw [show (encL (List.replicate m (0 : UInt8))).take (n * 1) = encL (List.replicate n (0 : UInt8)) from by
    have := encL_take (List.replicate m (0 : UInt8)) n
    rw [List.take_replicate, Nat.min_eq_left hnm] at this
    exact this] at S4
  exact K _ _ _ S4
end
def BlkF (ad : Addr) (b : Blk) : World → Prop := fun w => ∀ j v, (encL b.l)[j]? = some v → w.cell? (ad.add j) = some v
class HasBlkF (fs : List (World → Prop)) (ad : Addr) (b : outParam Blk) : Prop where mem : BlkF ad b ∈ fs
instance hbkf0 {ad : Addr} {b : Blk} {fs : List (World → Prop)} : HasBlkF (BlkF ad b :: fs) ad b := ⟨List.mem_cons_self ..⟩
section
variable {P : Program} {ty t : TypeId} {lc : Cx} {bs : List Item} {fs : List (World → Prop)} {x : Operand} {ad : Addr} {z : Value} {by_ : Nat} {b : Blk}
instance (priority := 810) opLoadBlkF [Ev lc x (.pointer (some ad))] [ha : AggT P t true] [TI P t z 64 by_] [hb : HasBlkF fs ad b] : OpQ P (.load t x) ty lc bs fs (.agg ⟨encL b.l⟩) := ⟨fun ρ w h mm => by
  have hf : BlkF ad b w := (mm.facts _ hb.mem).now
  have h1 := run_loadCells_list (P := P) w ad (encL b.l) hf
  simp only [b.len] at h1
  simp [xop, execOp, Instr.loadAt, h.ev (x := x) (v := .pointer (some ad)), Instr.sureAddr, loadVar, Sem.run_bind, ha.run, run_size, h1]⟩
end
instance itMpn {b : Nat} {kv : List (Int × Value)} : ItOk (mpn b kv) := ⟨mpn_loc b kv, fun w ⟨es, clock, h, _⟩ k hk => by obtain rfl : k = b := hk; exact (Array.getElem?_eq_some_iff.1 h).1⟩
def nilI : Item where
  foot := fun _ => False
  holds := fun _ => True
instance itNil : ItOk nilI := ⟨fun _ _ _ _ => trivial, fun _ _ _ h => h.elim⟩
instance sfZ {b : Blk} : SetFront (encL (List.replicate 64 (0 : UInt8))) (encL b.l) (encL b.l) := ⟨by rw [b.len, encL_len, List.length_replicate]; exact Nat.le_refl _, by rw [b.len, List.drop_of_length_le (by rw [encL_len, List.length_replicate]; exact Nat.le_refl _), List.append_nil]⟩
instance lenRep {n : Nat} : LenIs (encL (List.replicate n (0 : UInt8))) n := ⟨by rw [encL_len, List.length_replicate]; exact Nat.mul_one _⟩
instance (priority := 1100) repl1 {zs : List Value} : RepL 1 zs zs := ⟨by simp⟩
instance les65 : LeS 65 4096 := ⟨by decide⟩
instance nenZ {n : Nat} : NeN (encL (List.replicate (n + 1) (0 : UInt8))) := ⟨by rw [List.replicate_succ, encL_cons]; simp [Enc.cells]⟩
theorem iand7 (x : Int) (h : -9223372036854775808 ≤ x ∧ x ≤ 9223372036854775807) : iand .i64 x 7 = x % 8 := by
  have e1 : (BitVec.ofInt 64 x &&& BitVec.ofInt 64 7).toNat = (x % 8).toNat := by
    have e2 : (BitVec.ofInt 64 7 : BitVec 64) = 7#64 := by decide
    rw [e2, BitVec.toNat_and, BitVec.toNat_ofInt]
    have e3 : (7#64 : BitVec 64).toNat = 2 ^ 3 - 1 := by decide
    rw [e3, Nat.and_two_pow_sub_one_eq_mod]
    omega
  unfold iand
  show IntKind.i64.wrap ((BitVec.ofInt 64 x &&& BitVec.ofInt 64 7).toNat : Int) = _
  rw [e1, w64 _ (by omega) (by omega)]
  omega
end Go.Wk