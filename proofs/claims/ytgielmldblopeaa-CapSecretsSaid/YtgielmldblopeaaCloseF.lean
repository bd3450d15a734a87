/- Package close: Can. -/
import Derived.Test.YtgielmldblopeaaCloseE
namespace Go.Proofs.Ytgielmldblopeaa
open Go Go.Wk
set_option synthInstance.maxSize 100000
set_option synthInstance.maxHeartbeats 400000
set_option maxRecDepth 100000

noncomputable def derB (K : List Term) (t : Term) : Bool := @decide (Der K t) (Classical.propDecidable _)
theorem derB_iff {K : List Term} {t : Term} : derB K t = true ↔ Der K t := by
  unfold derB; exact @decide_eq_true_iff _ (Classical.propDecidable _)
/-- what close.Can tells. -/
noncomputable def canB (K : List Term) (t : Term) : Bool := if chkF K [t] = 0 then derB K t else false
theorem chk_zero {K L : List Term} : chkF K L = 0 ↔ K.length ≤ 500 ∧ ∀ t ∈ K ++ L, Good t := by
  have hb : ∀ t, badF t = false ↔ Good t := fun t => by rw [badF, ← good_check]; simp
  unfold chkF
  split
  · rename_i h; constructor
    · intro h; cases h
    · intro h2; omega
  · rename_i h
    split
    · rename_i h2
      constructor
      · intro h; cases h
      · rintro ⟨_, h3⟩
        obtain ⟨t, ht, h4⟩ := List.any_eq_true.1 h2
        rw [(hb t).2 (h3 t ht)] at h4; cases h4
    · rename_i h2
      refine ⟨fun _ => ⟨by omega, fun t ht => (hb t).1 ?_⟩, fun _ => rfl⟩
      cases hq : badF t with
      | false => rfl
      | true => exact absurd (List.any_eq_true.2 ⟨t, ht, hq⟩) h2
theorem can_cl (xs : List LTerm) (t : LTerm) (p : Option Addr) (c : Nat) (w0 : World) (hx : Stable (fun _ => False) w0 (LsF p 0 xs)) (ht : Stable (fun _ => False) w0 (LtF t)) :
    Ret Try.prog 33 [.slice p xs.length c, vL t] w0 (fun _ => False) fun v _ => v = .tuple ⟨[.bool (canB (xs.map LTerm.t) t.t), .int .i64 (chkF (xs.map LTerm.t) [t.t])]⟩ := by
  refine enter Try.func33 rfl rfl (Wd.begin (fs := [LtF t, LsF p 0 xs]) (by simp; exact ⟨ht, hx⟩)) (fun a S => ?_)
  simp only [Try.ntmps33, List.length_cons, List.length_nil, Nat.reduceAdd, Nat.reduceSub, List.replicate_succ, List.replicate_zero, List.cons_append, List.nil_append] at S
  refine c_seq ?_
  refine c_region ?_
  refine sa S ?_; clear S; intro b3 a w S
  iterate 2 (refine sq S ?_; clear S; intro a S)
  refine wl_nil ?_
  refine xtn ?_
  iterate 2 (refine c_seq ?_)
  refine c_region ?_
  iterate 2 (refine sq S ?_; clear S; intro a S)
  refine sn S ?_; clear S; intro b9 a w S
  have hb9 := S.box b9
  have h9 : Stable (fun _ => False) w (LsF (some ⟨b9, 0, none⟩) 0 [t]) := fun w' hw' =>
    LsIn.of_block [t] (by rw [hw'.blk (Array.getElem?_eq_some_iff.1 hb9).1 (fun h => h)]; exact hb9) (fun x hx => by obtain rfl := List.mem_singleton.1 hx; exact S.mem.t0 x w' hw')
  have hck := check_cl xs [t] p (some ⟨b9, 0, none⟩) xs.length 1 c 1 w rfl rfl (by omega) (S.mem.fact0 (LsF p 0 xs)) h9
  refine sr S hck ?_; clear S hck h9 hb9; rintro _ a w rfl S
  refine sq S ?_; clear S; intro a S
  refine wl_nil ?_
  refine xtn ?_
  refine c_seq ?_
  refine c_region ?_
  iterate 2 (refine sq S ?_; clear S; intro a S)
  refine wl_nil ?_
  refine xtn ?_
  refine c_cond S (fun h2 => ?_) (fun h2 => ?_)
  · refine c_seq ?_
    refine c_region ?_
    iterate 3 (refine sq S ?_; clear S; intro a S)
    refine wl_nil ?_
    refine xtn ?_
    refine c_ret ?_
    refine xtr ?_
    refine end2 S (fun _ => ?_)
    have h2' : ¬ chkF (xs.map LTerm.t) [t.t] = 0 := by simpa using h2
    rw [canB, if_neg h2']
    rfl
  · refine c_skip ?_
    refine xtn ?_
    refine c_seq ?_
    refine c_drawD [(0, true), (2, true), (1, false), (3, false), (4, true), (5, true)] [] S ?_; clear S; intro w S
    iterate 2 (refine dq S ?_; clear S; intro a S)
    refine dl ?_
    have h2' : chkF (xs.map LTerm.t) [t.t] = 0 := by simpa using h2
    obtain ⟨hlen, hgood⟩ := chk_zero.1 h2'
    rw [List.length_map] at hlen
    refine sr S (apart_c xs p c w hlen (S.mem.fact0 (LsF p 0 xs)) (fun x hx => hgood _ (List.mem_append_left _ (List.mem_map.2 ⟨x, hx, rfl⟩)))) ?_; clear S; rintro _ a w ⟨b, km, rfl, hm, hb, hA, -, -⟩ S
    refine de S ?_
    refine dl ?_
    refine sr S (can_c t b km w (S.mem.t0 t) (MpF.stable hm (fun h => h))) ?_; clear S; rintro _ a w rfl S
    refine de S ?_
    iterate 2 (refine dq S ?_; clear S; intro a S)
    refine dn ?_
    refine xtn ?_
    refine c_ret ?_
    refine end2 S (fun _ => ?_)
    rw [canB, if_pos h2', h2']
    have hgt : Good t.t := hgood _ (List.mem_append_right _ (by simp))
    have e : canF (inM km) t.t = derB (xs.map LTerm.t) t.t := by
      rw [Bool.eq_iff_iff, derB_iff, can_iff hA hgt]
    rw [e]
instance {xs : List LTerm} {t : LTerm} {p : Option Addr} {n c : Nat} {bs fs} [hn : LenN xs n] [hx : HasLs fs p xs] [HasT fs t] : CallV Try.prog 33 [.slice p n c, vL t] bs fs (.tuple ⟨[.bool (canB (xs.map LTerm.t) t.t), .int .i64 (chkF (xs.map LTerm.t) [t.t])]⟩) :=
  ⟨fun w m => by
    have := hn.eq
    subst this
    exact can_cl xs t p c w ((hx.of _ _ m.facts).less fun _ _ h => h.elim) (m.t0 _)⟩
end Go.Proofs.Ytgielmldblopeaa
