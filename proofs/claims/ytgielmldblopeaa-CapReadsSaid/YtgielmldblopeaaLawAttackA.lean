/- The laws AttackGrows and AttackSame. -/
import Derived.Test.YtgielmldblopeaaAttackF
namespace Go.Proofs.Ytgielmldblopeaa
open Go Go.Wk
set_option synthInstance.maxSize 100000
set_option synthInstance.maxHeartbeats 400000
set_option maxRecDepth 100000

structure LAtk where
  users : Sl Int
  known : Sl LTerm
instance encAtk : Enc LAtk := ⟨2, fun a => [a.users.v, a.known.v], fun _ => rfl, fun x u hu => by simp only [List.mem_cons, List.not_mem_nil, or_false] at hu; rcases hu with rfl | rfl <;> rfl⟩
instance layAtk : Lay LAtk := { encAtk with
  dflt := ⟨⟨none, 0, []⟩, ⟨none, 0, []⟩⟩
  inn := fun w a => Lay.inn w a.users ∧ Lay.inn w a.known
  mono := fun w w' x h hx => ⟨Lay.mono w w' x.users h hx.1, Lay.mono w w' x.known h hx.2⟩ }
/-- what is known of an attacker that came in. -/
structure AtkIn (M : Nat → Prop) (w : World) (x : LAtk) : Prop where
  u1 : x.users.xs.length ≤ x.users.cap
  u2 : x.users.cap ≤ maxLen
  k1 : x.known.xs.length ≤ x.known.cap
  k2 : x.known.cap ≤ maxLen
  u : Stable M w (SlF x.users.p (encL x.users.xs))
  k : Stable M w (LsF x.known.p 0 x.known.xs)
theorem AtkIn.of {w : World} {x : LAtk} (h : Lay.inn w x) : AtkIn (fun _ => False) w x := ⟨h.1.1, h.1.2.1, h.2.1, h.2.2.1, h.1.2.2.stable.imp fun _ h => h.1, h.2.2.2.stable.imp fun _ h => gl_ls h⟩
abbrev vAtk (x : LAtk) : Value := vA x.users.p x.users.xs.length x.users.cap x.known.p x.known.xs.length x.known.cap

theorem smallT_idem : ∀ (d : Nat) (t : Term), smallT d (smallT d t) = smallT d t
  | 0, .mk k u n s _ => by simp [smallT, List.take_take]
  | d + 1, .mk k u n s ks => by
    simp only [smallT, List.take_take, Nat.min_self, Term.mk.injEq, true_and]
    have e : ((ks.take 3).map (smallT d)).map (smallT d) = (ks.take 3).map (smallT d) := by
      rw [List.map_map]; exact List.map_congr_left fun t _ => smallT_idem d t
    have e2 : ((ks.take 3).map (smallT d)).take 3 = (ks.take 3).map (smallT d) := List.take_of_length_le (by simp; omega)
    first | rw [e, e2] | (rw [← List.map_take] at *; rw [e2, e])
theorem shortK_idem (K : List Term) : shortK (shortK K) = shortK K := by
  have h : (shortK K).take (shortN (shortK K).length) = shortK K := by
    refine List.take_of_length_le ?_
    simp only [shortK, shortN, List.length_map, List.length_take]
    split <;> split <;> omega
  conv => lhs; rw [shortK, h]
  rw [shortK, List.map_map]
  exact List.map_congr_left fun t _ => smallT_idem 6 t
theorem short_len (K : List Term) : (shortK K).length ≤ 501 := by
  simp only [shortK, shortN, List.length_map, List.length_take]
  split <;> omega
theorem sameLF_refl (K : List Term) : sameLF K K = true := (sameLF_iff _ _).2 rfl
theorem sameA_refl (us : List Int) (K : List Term) : sameA us us K K = true := by simp [sameA, sameLF_refl]
structure AV where
  pu : Option Addr
  cu : Nat
  pk : Option Addr
  ck : Nat
  ks : List LTerm
end Go.Proofs.Ytgielmldblopeaa
