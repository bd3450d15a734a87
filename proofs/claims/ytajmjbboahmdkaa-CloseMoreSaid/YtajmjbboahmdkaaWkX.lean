import Derived.Test.YtajmjbboahmdkaaWkR
import Derived.Test.YtajmjbboahmdkaaWkW
namespace Go.Wk
open Go Go.Deep Go.ChangeShapes Go.WideShapes Go.ChangeAt Go.RowKit

/-! rows of terms that came in -/
section
variable {H : Type} {enc : TypeId × Value → H} {P : Program} {w : World} {base : Nat} {spare : Nat → Bool} {held : Bool} {L : TypeId}
theorem terms_of_trod {T : TypeId} [hT : TermTy P T] (hL : P.underlying L = some (.slice T)) {fuel : Nat} {cs : List Value} {x : DataW H × List MemPlace} (h : DataW.trod enc P w base spare held fuel L cs = some x) :
    ∃ (p : Option Addr) (c : Nat) (ts : List LTerm), cs = [.slice p ts.length c] ∧ ts.length ≤ c ∧ c ≤ maxLen ∧ LsIn w p 0 ts := by
  obtain ⟨fs, I, S, L', hu, hf, hI, hS, hL', c1, c2, c3, c4⟩ := hT.ex
  rcases DataW.trod_slice hL h with ⟨e4, _⟩ | ⟨ad, len, cap, elems, rest, n', rfl, e4, _, _, hlc, hcm, hel, hem, _, _⟩
  · exact ⟨none, 0, [], by simpa using e4, Nat.le_refl _, Nat.zero_le _, by simp [LsIn]⟩
  · subst e4
    obtain ⟨g, hg⟩ := choose_lt (α := LTerm) (p := fun i t => w.cells? base (ad.add (i * 5)) 5 = some t.cells ∧ LtIn w t) (n := len) (fun i hi => by
      have h1 := hem i hi
      rw [c1, List.getElem?_eq_getElem (by omega)] at h1
      obtain ⟨cs', h2, h3⟩ := Option.bind_eq_some_iff.1 h1
      obtain ⟨t, rfl, ht⟩ := term_of_trod n' cs' _ h3
      exact ⟨t, h2, ht⟩)
    refine ⟨some ad, cap, (List.range len).map g, by simp, by simpa using hlc, hcm, ?_⟩
    refine LsIn.of_all fun i t ht => ?_
    have hi : i < len := by
      rcases Nat.lt_or_ge i len with h | h
      · exact h
      · rw [List.getElem?_eq_none (by simpa using h)] at ht; cases ht
    have : t = g i := by simpa [hi] using ht.symm
    subst this
    obtain ⟨hc, hin⟩ := hg i hi
    refine ⟨fun j v hj => ?_, hin⟩
    obtain ⟨_, _, h5⟩ := World.cells?_some hc
    have hj5 : j < 5 := by
      have := (List.getElem?_eq_some_iff.1 hj).1
      simpa [LTerm.cells] using this
    have := h5 j hj5
    rw [Go.Deep.add_add, hj] at this
    simpa using this
theorem terms_of_Trod {T : TypeId} [hT : TermTy P T] (hL : P.underlying L = some (.slice T)) {v : Value} {d : DataW H} {p : List MemPlace} {r : Reach} {W : World} {base' : Nat} (h : DataW.Trod enc P w base spare held L v d p) (hv : Value.okWide P W r base' L v) :
    ∃ (p : Option Addr) (c : Nat) (ts : List LTerm), v = .slice p ts.length c ∧ ts.length ≤ c ∧ c ≤ maxLen ∧ LsIn w p 0 ts := by
  obtain ⟨a, len, cap, rfl⟩ := okWide_slice hL hv
  obtain ⟨fuel, hf⟩ := h
  obtain ⟨p, c, ts, e, h1, h2, h3⟩ := terms_of_trod hL hf
  have e' : a = p ∧ len = ts.length ∧ cap = c := by simpa [Value.cells] using e
  obtain ⟨rfl, rfl, rfl⟩ := e'
  exact ⟨_, _, ts, rfl, h1, h2, h3⟩
end
/-- what came in is touched by nobody. -/
theorem LsIn.stable {w : World} {p : Option Addr} {i : Nat} {ts : List LTerm} (h : LsIn w p i ts) : Stable (fun _ => False) w (LsF p i ts) := fun w' hw' => LsIn.mono (fun _ _ hc => cell_agree hw' hc) ts h
end Go.Wk
