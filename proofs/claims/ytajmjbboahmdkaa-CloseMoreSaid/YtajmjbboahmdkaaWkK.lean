import Derived.Test.YtajmjbboahmdkaaWkJ
namespace Go.Wk
open Go

/-! elements of lists of terms, by instances -/
class KLt (k n : Nat) : Prop where lt : k < n
class IsNat (m : Int) (k : outParam Nat) : Prop where eq : m = (k : Int)
instance isnat1 {k : Nat} : IsNat (k : Int) k := ⟨rfl⟩
instance isnat2 {n : Nat} : IsNat (OfNat.ofNat n) n := ⟨rfl⟩
def nthL (xs : List LTerm) (k : Nat) : LTerm := xs.getD k zeroL
def elAddr (p : Option Addr) (k : Nat) : Addr := (p.getD ⟨0, 0, none⟩).add (k * 5)
/-- the facts say that a list of terms lies at p. -/
class HasLs (fs : List (World → Prop)) (p : Option Addr) (xs : outParam (List LTerm)) : Prop where
  of : ∀ (M : Nat → Prop) (w : World), (∀ Φ ∈ fs, Stable M w Φ) → Stable M w (LsF p 0 xs)
instance hasls0 {fs : List (World → Prop)} {p : Option Addr} {xs : List LTerm} : HasLs (LsF p 0 xs :: fs) p xs := ⟨fun _ _ h => h _ (by simp)⟩
instance hasls1 {fs : List (World → Prop)} {t : LTerm} : HasLs (LtF t :: fs) t.p t.kids := ⟨fun _ _ h => ls_of_lt (h _ (by simp))⟩
instance (priority := 900) haslsS {fs : List (World → Prop)} {Φ : World → Prop} {p : Option Addr} {xs : List LTerm} [h : HasLs fs p xs] : HasLs (Φ :: fs) p xs := ⟨fun M w hf => h.of M w fun Ψ hΨ => hf Ψ (by simp [hΨ])⟩
/-- likewise, asked for by the list. -/
class HasLx (fs : List (World → Prop)) (xs : List LTerm) : Prop where
  of : ∀ (M : Nat → Prop) (w : World), (∀ Φ ∈ fs, Stable M w Φ) → ∃ p, Stable M w (LsF p 0 xs)
instance haslx0 {fs : List (World → Prop)} {p : Option Addr} {xs : List LTerm} : HasLx (LsF p 0 xs :: fs) xs := ⟨fun _ _ h => ⟨p, h _ (by simp)⟩⟩
instance haslx1 {fs : List (World → Prop)} {t : LTerm} : HasLx (LtF t :: fs) t.kids := ⟨fun _ _ h => ⟨t.p, ls_of_lt (h _ (by simp))⟩⟩
instance (priority := 900) haslxS {fs : List (World → Prop)} {Φ : World → Prop} {xs : List LTerm} [h : HasLx fs xs] : HasLx (Φ :: fs) xs := ⟨fun M w hf => h.of M w fun Ψ hΨ => hf Ψ (by simp [hΨ])⟩
/-- the facts say that a term lies where it says. -/
class HasT (fs : List (World → Prop)) (t : LTerm) : Prop where
  of : ∀ (M : Nat → Prop) (w : World), (∀ Φ ∈ fs, Stable M w Φ) → Stable M w (LtF t)
instance hast0 {fs : List (World → Prop)} {t : LTerm} [h : HasFact fs (LtF t)] : HasT fs t := ⟨fun _ _ hf => hf _ h.mem⟩
theorem nth_get {xs : List LTerm} {k : Nat} (h : k < xs.length) : xs[k]? = some (nthL xs k) := by
  simp [nthL, h]
theorem nth_mem {xs : List LTerm} {k : Nat} (h : k < xs.length) : nthL xs k ∈ xs := List.mem_of_getElem? (nth_get h)
theorem nth_drop {xs : List LTerm} {k : Nat} (h : k < xs.length) : xs.drop k = nthL xs k :: xs.drop (k + 1) := by
  rw [List.drop_eq_getElem_cons h]
  congr 1
  simp [nthL, h]
instance (priority := 900) hast1 {fs : List (World → Prop)} {xs : List LTerm} {k : Nat} [h : HasLx fs xs] [hk : KLt k xs.length] : HasT fs (nthL xs k) := ⟨fun M w hf => by
  obtain ⟨p, hp⟩ := h.of M w hf
  exact hp.imp fun w' hw' => (LsIn.get hw' (nth_get hk.lt)).2⟩
instance (priority := 800) hastText {fs : List (World → Prop)} {s : List UInt8} : HasT fs (textL s) := ⟨fun _ _ _ w _ => textL_in w s⟩
instance (priority := 800) hastFresh {fs : List (World → Prop)} {u n : Int} : HasT fs (freshL u n) := ⟨fun _ _ _ w _ => freshL_in w u n⟩
instance (priority := 800) hastZero {fs : List (World → Prop)} : HasT fs zeroL := ⟨fun _ _ _ w _ => zeroL_in w⟩
theorem St.t {w0 M0 ds a w l bs fs} (S : St w0 M0 ds a w l bs fs) (t : LTerm) [h : HasT fs t] : Stable (foots bs) w (LtF t) := h.of _ _ S.wd.facts
theorem St.t0 {w0 M0 ds a w l bs fs} (S : St w0 M0 ds a w l bs fs) (t : LTerm) [h : HasT fs t] : Stable (fun _ => False) w (LtF t) := (S.t t).less fun _ _ h => h.elim
theorem Mem.t {w bs fs} (m : Mem w bs fs) (t : LTerm) [h : HasT fs t] : Stable (foots bs) w (LtF t) := h.of _ _ m.facts
theorem Mem.t0 {w bs fs} (m : Mem w bs fs) (t : LTerm) [h : HasT fs t] : Stable (fun _ => False) w (LtF t) := (m.t t).less fun _ _ h => h.elim
theorem St.laterT {w0 M0 ds a w l bs fs} (S : St w0 M0 ds a w l bs fs) {M : Nat → Prop} [he : HasExt bs M] (t : LTerm) [h : HasT fs t] : Stable M w (LtF t) := (S.t t).less fun _ _ hk => ⟨_, he.mem, hk⟩

theorem ls_addr {w : World} {p : Option Addr} {xs : List LTerm} (h : LsIn w p 0 xs) {k : Nat} (hk : k < xs.length) : p = some (p.getD ⟨0, 0, none⟩) ∧ ∀ j v, (nthL xs k).cells[j]? = some v → w.cell? ((elAddr p k).add j) = some v := by
  obtain ⟨ad, rfl, hc⟩ := (h.get (nth_get hk)).1
  refine ⟨rfl, fun j v hj => ?_⟩
  simp only [elAddr, Option.getD_some, add_add]
  simpa using hc j v hj
instance (priority := 900) opIdxT {P : Program} {t ty : TypeId} {e : TypeId} {z : Value} {by_ : Nat} {l : Cx} {bs : List Item} {fs : List (World → Prop)} {x y : Operand} {p : Option Addr} {n c k : Nat} {kk : IntKind} {m : Int} {xs : List LTerm} [Ev l x (.slice p n c)] [Ev l y (.int kk m)] [Und P t (.slice e)] [TI P e z 5 by_] [hm : IsNat m k] [hl : HasLs fs p xs] [hk : KLt k n] [hk' : KLt k xs.length] :
    OpQ P (.indexAddr t x y) ty l bs fs (.pointer (some (elAddr p k))) := ⟨fun ρ w h mm => by
  have h1 := (ls_addr (hl.of _ _ mm.facts).now hk'.lt).1
  have h2 := hm.eq
  subst h2
  rw [h1]
  have hlt := hk.lt
  simp [xop, execOp, h.ev (x := x) (v := .slice p n c), h.ev (x := y) (v := .int kk (k : Int))]
  rw [h1]
  simp [run_indexAt (P := P) (t := t) (e := e) (z := z) (sz := 5) (by_ := by_) (Int.natCast_nonneg k) (Int.ofNat_lt.2 hlt), elAddr]⟩
instance (priority := 900) opLoadT {P : Program} {t ty : TypeId} {z : Value} {by_ : Nat} {l : Cx} {bs : List Item} {fs : List (World → Prop)} {x : Operand} {p : Option Addr} {k : Nat} {xs : List LTerm} [Ev l x (.pointer (some (elAddr p k)))] [ha : AggT P t true] [TI P t z 5 by_] [hl : HasLs fs p xs] [hk : KLt k xs.length] :
    OpQ P (.load t x) ty l bs fs (vL (nthL xs k)) := ⟨fun ρ w h mm => by
  have h1 := (ls_addr (hl.of _ _ mm.facts).now hk.lt).2
  have hlc := run_loadCells_list (P := P) w (elAddr p k) (nthL xs k).cells h1
  have hlen : (nthL xs k).cells.length = 5 := rfl
  rw [hlen] at hlc
  simp [xop, execOp, Instr.loadAt, h.ev (x := x) (v := .pointer (some (elAddr p k))), Instr.sureAddr, loadVar, Sem.run_bind, ha.run, run_size, hlc]⟩
end Go.Wk
