/- Package close: can. -/
import Derived.Test.YtgielmldblopeaaCloseA
import Derived.Test.YtgielmldblopeaaSlicesT
import Derived.Test.YtgielmldblopeaaW4
namespace Go.Proofs.Ytgielmldblopeaa
open Go Go.Wk
set_option synthInstance.maxSize 100000
set_option synthInstance.maxHeartbeats 400000
set_option maxRecDepth 100000

def secretT (u : Int) : Term := .mk 3 u 0 [] []
def secretL (u : Int) : LTerm := .mk 3 u 0 [] none 0 []
theorem secret_c (u : Int) (w0 : World) : Ret Try.prog 32 [.int .i64 u] w0 (fun _ => False) fun v _ => v = vL (secretL u) := by
  refine enter Try.func32 rfl rfl (Wd.start w0) (fun a S => ?_)
  simp only [Try.ntmps32, List.length_cons, List.length_nil, Nat.reduceAdd, Nat.reduceSub, List.replicate_succ, List.replicate_zero, List.cons_append, List.nil_append] at S
  refine c_seq ?_
  refine c_region ?_
  refine sa S ?_; clear S; intro b2 a w S
  refine wl_nil ?_
  refine xtn ?_
  refine c_seq ?_
  refine c_region ?_
  iterate 2 (refine sq S ?_; clear S; intro a S)
  refine sw S ?_; clear S; intro a w S
  refine wl_nil ?_
  refine xtn ?_
  refine c_ret ?_
  refine end1 S (fun _ => ?_)
  rfl
instance {u : Int} {bs fs} : CallV Try.prog 32 [.int .i64 u] bs fs (vL (secretL u)) := ⟨fun w _ => secret_c u w⟩
instance {fs : List (World → Prop)} {u : Int} : HasT fs (secretL u) := ⟨fun _ _ _ w _ => by simp [LtF, LtIn, secretL, LsIn]⟩
/-! maps from bytes to terms -/
def kvM (km : List (List UInt8 × LTerm)) : List (List UInt8 × Value) := km.map fun x => (x.1, vL x.2)
def tget (k : List UInt8) : List (List UInt8 × LTerm) → Option LTerm
  | [] => none
  | (u, x) :: km => if k = u then some x else tget k km
abbrev zeroL : LTerm := .mk 0 0 0 [] none 0 []
theorem kvM_idx (k : List UInt8) : ∀ (km : List (List UInt8 × LTerm)) (i : Nat), (kvIdx k (kvM km) i).map (·.2) = (tget k km).map fun x => vL x
  | [], _ => rfl
  | (u, x) :: km, i => by
    show (kvIdx k ((u, vL x) :: kvM km) i).map (·.2) = _
    rw [kvIdx, tget]
    split
    · rfl
    · exact kvM_idx k km (i + 1)
theorem kvM_get (k : List UInt8) (km : List (List UInt8 × LTerm)) : kvGet k (kvM km) = (tget k km).map fun x => vL x := kvM_idx k km 0
theorem kvM_getD (k : List UInt8) (km : List (List UInt8 × LTerm)) : (kvGet k (kvM km)).getD (.agg #[.int .i64 0, .int .i64 0, .int .i64 0, .string ⟨#[]⟩, .slice none 0 0]) = vL ((tget k km).getD zeroL) := by
  rw [kvM_get]; cases tget k km <;> rfl
def inM (km : List (List UInt8 × LTerm)) (k : List UInt8) : Bool := (tget k km).isSome
theorem kvM_some (k : List UInt8) (km : List (List UInt8 × LTerm)) : (kvGet k (kvM km)).isSome = inM km k := by
  rw [kvM_get]; unfold inM; cases tget k km <;> rfl
mutual
def canF (H : List UInt8 → Bool) : Term → Bool
  | .mk k u n s ks => (H (nameF (.mk k u n s ks)) || decide (k = 1)) || (!(decide (k = 2) || decide (k = 3)) && ((!decide (k = 8) || H (nameF (secretT u))) && canLF H ks))
def canLF (H : List UInt8 → Bool) : List Term → Bool
  | [] => true
  | t :: ts => canF H t && canLF H ts
end
theorem canLF_any (H : List UInt8 → Bool) : ∀ ts : List Term, canLF H ts = !(ts.any fun t => !canF H t)
  | [] => rfl
  | t :: ts => by rw [canLF, canLF_any H ts, List.any_cons]; cases canF H t <;> rfl
theorem canF_secret (H : List UInt8 → Bool) (u : Int) : canF H (secretT u) = H (nameF (secretT u)) := by
  rw [secretT, canF]; simp
theorem kid_st {M : Nat → Prop} {w : World} {t x : LTerm} (h : Stable M w (LtF t)) (hx : x ∈ t.kids) : Stable M w (LtF x) := by
  obtain ⟨k, hk, rfl⟩ := List.mem_iff_getElem.1 hx
  exact h.imp fun w' hw' => ((LtIn.iff.1 hw').2.2.get (List.getElem?_eq_getElem hk)).2
theorem can_close (b2 b : Nat) (x : LTerm) (km : List (List UInt8 × LTerm)) (w0 : World) (hb : Stable (fun _ => False) w0 (BoxF b2 119 [.map (some b)])) (hm : Stable (fun _ => False) w0 (MpF b (kvM km))) (hx : Stable (fun _ => False) w0 (LtF x))
    (h : ∀ w, Agree (fun _ => False) w0 w → Ret Try.prog 80 [.map (some b), vL x] w (fun _ => False) fun v _ => v = .bool (canF (inM km) x.t)) :
    Ret Try.prog 116 [vL x, .pointer (some ⟨b2, 0, none⟩)] w0 (fun _ => False) fun v _ => v = .bool (!canF (inM km) x.t) := by
  refine enter Try.func116 rfl rfl (Wd.begin (fs := [LtF x, BoxF b2 119 [.map (some b)], MpF b (kvM km)]) (by simp; exact ⟨hx, hb, hm⟩)) (fun a S => ?_)
  simp only [Try.ntmps116, List.length_cons, List.length_nil, Nat.reduceAdd, Nat.reduceSub, List.replicate_succ, List.replicate_zero, List.cons_append, List.nil_append] at S
  refine c_seq ?_
  refine c_region ?_
  refine sa S ?_; clear S; intro b2 a w S
  refine sq S ?_; clear S; intro a S
  refine wl_nil ?_
  refine xtn ?_
  refine c_seq ?_
  refine c_region ?_
  iterate 2 (refine sq S ?_; clear S; intro a S)
  refine sr S (h w S.wd.agree) ?_; clear S; rintro _ a w rfl S
  iterate 2 (refine sq S ?_; clear S; intro a S)
  refine wl_nil ?_
  refine xtn ?_
  refine c_ret ?_
  refine end1 S (fun _ => rfl)
theorem can_walk (t : LTerm) (b : Nat) (km : List (List UInt8 × LTerm)) (w0 : World) (hf : Stable (fun _ => False) w0 (LtF t)) (hm : Stable (fun _ => False) w0 (MpF b (kvM km)))
    (hsec : t.kind = 8 → ∀ w, Agree (fun _ => False) w0 w → Ret Try.prog 80 [.map (some b), vL (secretL t.user)] w (fun _ => False) fun v _ => v = .bool (canF (inM km) (secretT t.user)))
    (hkid : ∀ x ∈ t.kids, ∀ w, Agree (fun _ => False) w0 w → Ret Try.prog 80 [.map (some b), vL x] w (fun _ => False) fun v _ => v = .bool (canF (inM km) x.t)) :
    Ret Try.prog 80 [.map (some b), vL t] w0 (fun _ => False) fun v _ => v = .bool (canF (inM km) t.t) := by
  have hcan : canF (inM km) t.t = ((inM km (nameF t.t) || decide (t.kind = 1)) || (!(decide (t.kind = 2) || decide (t.kind = 3)) && ((!decide (t.kind = 8) || inM km (nameF (secretT t.user))) && canLF (inM km) (t.kids.map LTerm.t)))) := by
    rw [LTerm.t_eq, canF]
  rw [hcan]
  refine enter Try.func80 rfl rfl (Wd.begin (fs := [LtF t, MpF b (kvM km)]) (by simp; exact ⟨hf, hm⟩)) (fun a S => ?_)
  simp only [Try.ntmps80, List.length_cons, List.length_nil, Nat.reduceAdd, Nat.reduceSub, List.replicate_succ, List.replicate_zero, List.cons_append, List.nil_append] at S
  refine c_seq ?_
  refine c_region ?_
  refine sa S ?_; clear S; intro b2 a w S
  refine sa S ?_; clear S; intro b3 a w S
  refine sq S ?_; clear S; intro a S
  refine wl_nil ?_
  refine xtn ?_
  iterate 2 (refine c_seq ?_)
  refine' c_drawT1 (.q 0 (.q 1 (.b2 2 7 (.q 3 (.q 4 (.q 5 (.q 6 (.l 7 (.l 8 (.q 9 (.e)))))))) (.l 2 (.q 3 (.q 4 (.q 5 (.q 6 (.l 8 (.q 9 (.e))))))))))) [] S ?_ ?_
  rotate_left 3
  · intro w S
    iterate 2 (refine tq S ?_; clear S; intro a S)
    refine tb2 ?_ ?_
    · refine sc S ?_; clear S; intro a w S
      refine te S ?_
      refine tq S ?_; clear S; intro a S
      rw [kvM_getD, kvM_some] at S
      iterate 3 (refine tq S ?_; clear S; intro a S)
      refine tl ?_
      refine sa S ?_; clear S; intro b5 a w S
      refine te S ?_
      refine tl ?_
      refine sw S ?_; clear S; intro a w S
      refine te S ?_
      refine tq S ?_; clear S; intro a S
      refine tn ?_
      exact ⟨b5, S⟩
    · refine sa S ?_; clear S; intro b5 a w S
      refine te S ?_
      refine tl ?_
      refine sc S ?_; clear S; intro a w S
      refine te S ?_
      refine tq S ?_; clear S; intro a S
      rw [kvM_getD, kvM_some] at S
      iterate 3 (refine tq S ?_; clear S; intro a S)
      refine tl ?_
      refine sw S ?_; clear S; intro a w S
      refine te S ?_
      refine tq S ?_; clear S; intro a S
      refine tn ?_
      exact ⟨b5, S⟩
  intro b5 a w S
  refine xtn ?_
  refine c_seq ?_
  refine c_region ?_
  iterate 2 (refine sq S ?_; clear S; intro a S)
  iterate 3 (refine gQ S ?_; clear S; intro a S)
  refine sq S ?_; clear S; intro a S
  refine wl_nil ?_
  refine xtn ?_
  refine c_cond S (fun h2 => ?_) (fun h2 => ?_)
  · refine c_seq ?_
    refine c_region ?_
    refine sq S ?_; clear S; intro a S
    refine wl_nil ?_
    refine xtn ?_
    refine c_ret ?_
    refine xtr ?_
    clear hkid hsec hcan hf hm
    refine end1 S (fun _ => ?_)
    clear S
    simp_all [canLF_any, List.any_map, Function.comp_def]
  · refine c_skip ?_
    refine xtn ?_
    iterate 2 (refine c_seq ?_)
    refine c_region ?_
    iterate 2 (refine sq S ?_; clear S; intro a S)
    refine wl_nil ?_
    refine xtn ?_
    refine c_block ?_
    iterate 2 (refine c_seq ?_)
    refine c_region ?_
    iterate 2 (refine sq S ?_; clear S; intro a S)
    refine wl_nil ?_
    refine xtn ?_
    refine c_cond S (fun h5 => ?_) (fun h5 => ?_)
    · refine c_skip ?_
      refine xtn ?_
      refine c_cond S (fun h5 => ?_) (fun h5 => ?_)
      · refine c_seq ?_
        refine c_region ?_
        refine sq S ?_; clear S; intro a S
        refine wl_nil ?_
        refine xtn ?_
        refine c_ret ?_
        refine xbr ?_
        refine xtr ?_
        clear hkid hsec hcan hf hm
        refine end1 S (fun _ => ?_)
        clear S
        simp_all [canLF_any, List.any_map, Function.comp_def]
      · refine c_seq ?_
        refine c_region ?_
        iterate 2 (refine sq S ?_; clear S; intro a S)
        refine wl_nil ?_
        refine xtn ?_
        refine c_cond S (fun h8 => ?_) (fun h8 => ?_)
        · refine c_seq ?_
          refine c_drawD [(0, true), (1, true), (2, true), (3, false), (4, false), (5, true)] [] S ?_; clear S; intro w S
          iterate 3 (refine dq S ?_; clear S; intro a S)
          refine dl ?_
          refine sc S ?_; clear S; intro a w S
          refine de S ?_
          refine dl ?_
          refine sr S (hsec (by simpa using h8) w S.wd.agree) ?_; clear S; rintro _ a w rfl S
          rw [canF_secret] at S
          refine de S ?_
          refine dq S ?_; clear S; intro a S
          refine dn ?_
          refine xtn ?_
          refine c_cond S (fun h9 => ?_) (fun h9 => ?_)
          · refine c_seq ?_
            refine c_region ?_
            refine sq S ?_; clear S; intro a S
            refine wl_nil ?_
            refine xtn ?_
            refine c_ret ?_
            refine xbr ?_
            refine xtr ?_
            clear hkid hsec hcan hf hm
            refine end1 S (fun _ => ?_)
            clear S
            simp_all [canLF_any, List.any_map, Function.comp_def]
          · refine c_skip ?_
            refine xbn ?_
            refine xtn ?_
            refine c_seq ?_
            refine c_region ?_
            iterate 3 (refine sq S ?_; clear S; intro a S)
            have hb2 : Stable (fun _ => False) w (BoxF b2 119 [.map (some b)]) := BoxF.stable (S.boxF b2) (fun h => h)
            have hlt := S.mem.fact0 (LtF t)
            have hmp := S.mem.fact0 (MpF b (kvM km))
            have hag := S.wd.agree
            have hcc := contains_c 116 [.pointer (some ⟨b2, 0, none⟩)] (fun x => !canF (inM km) x.t) t.kids t.p _ t.cap w rfl (LTerm.len_le hlt) (hlt.imp fun _ h => (LtIn.iff.1 h).2.2) fun x hx w' hw' =>
              can_close b2 b x km w' (hb2.later hw') (hmp.later hw') ((kid_st hlt hx).later hw') fun w'' hw'' => hkid x hx w'' (hag.trans (hw'.trans hw''))
            refine sr S hcc ?_
            clear S hb2 hlt hmp hag hcc; rintro _ a w rfl S
            iterate 2 (refine sq S ?_; clear S; intro a S)
            refine wl_nil ?_
            refine xtn ?_
            refine c_ret ?_
            clear hkid hsec hcan hf hm
            refine end1 S (fun _ => ?_)
            clear S
            simp_all [canLF_any, List.any_map, Function.comp_def]
        · refine c_skip ?_
          refine xbn ?_
          refine xtn ?_
          refine c_seq ?_
          refine c_region ?_
          iterate 3 (refine sq S ?_; clear S; intro a S)
          have hb2 : Stable (fun _ => False) w (BoxF b2 119 [.map (some b)]) := BoxF.stable (S.boxF b2) (fun h => h)
          have hlt := S.mem.fact0 (LtF t)
          have hmp := S.mem.fact0 (MpF b (kvM km))
          have hag := S.wd.agree
          have hcc := contains_c 116 [.pointer (some ⟨b2, 0, none⟩)] (fun x => !canF (inM km) x.t) t.kids t.p _ t.cap w rfl (LTerm.len_le hlt) (hlt.imp fun _ h => (LtIn.iff.1 h).2.2) fun x hx w' hw' =>
            can_close b2 b x km w' (hb2.later hw') (hmp.later hw') ((kid_st hlt hx).later hw') fun w'' hw'' => hkid x hx w'' (hag.trans (hw'.trans hw''))
          refine sr S hcc ?_
          clear S hb2 hlt hmp hag hcc; rintro _ a w rfl S
          iterate 2 (refine sq S ?_; clear S; intro a S)
          refine wl_nil ?_
          refine xtn ?_
          refine c_ret ?_
          clear hkid hsec hcan hf hm
          refine end1 S (fun _ => ?_)
          clear S
          simp_all [canLF_any, List.any_map, Function.comp_def]
    · refine c_region ?_
      iterate 2 (refine sq S ?_; clear S; intro a S)
      refine wl_nil ?_
      refine xtn ?_
      refine c_cond S (fun h6 => ?_) (fun h6 => ?_)
      · refine c_seq ?_
        refine c_region ?_
        refine sq S ?_; clear S; intro a S
        refine wl_nil ?_
        refine xtn ?_
        refine c_ret ?_
        refine xbr ?_
        refine xtr ?_
        clear hkid hsec hcan hf hm
        refine end1 S (fun _ => ?_)
        clear S
        simp_all [canLF_any, List.any_map, Function.comp_def]
      · refine c_seq ?_
        refine c_region ?_
        iterate 2 (refine sq S ?_; clear S; intro a S)
        refine wl_nil ?_
        refine xtn ?_
        refine c_cond S (fun h8 => ?_) (fun h8 => ?_)
        · refine c_seq ?_
          refine c_drawD [(0, true), (1, true), (2, true), (3, false), (4, false), (5, true)] [] S ?_; clear S; intro w S
          iterate 3 (refine dq S ?_; clear S; intro a S)
          refine dl ?_
          refine sc S ?_; clear S; intro a w S
          refine de S ?_
          refine dl ?_
          refine sr S (hsec (by simpa using h8) w S.wd.agree) ?_; clear S; rintro _ a w rfl S
          rw [canF_secret] at S
          refine de S ?_
          refine dq S ?_; clear S; intro a S
          refine dn ?_
          refine xtn ?_
          refine c_cond S (fun h9 => ?_) (fun h9 => ?_)
          · refine c_seq ?_
            refine c_region ?_
            refine sq S ?_; clear S; intro a S
            refine wl_nil ?_
            refine xtn ?_
            refine c_ret ?_
            refine xbr ?_
            refine xtr ?_
            clear hkid hsec hcan hf hm
            refine end1 S (fun _ => ?_)
            clear S
            simp_all [canLF_any, List.any_map, Function.comp_def]
          · refine c_skip ?_
            refine xbn ?_
            refine xtn ?_
            refine c_seq ?_
            refine c_region ?_
            iterate 3 (refine sq S ?_; clear S; intro a S)
            have hb2 : Stable (fun _ => False) w (BoxF b2 119 [.map (some b)]) := BoxF.stable (S.boxF b2) (fun h => h)
            have hlt := S.mem.fact0 (LtF t)
            have hmp := S.mem.fact0 (MpF b (kvM km))
            have hag := S.wd.agree
            have hcc := contains_c 116 [.pointer (some ⟨b2, 0, none⟩)] (fun x => !canF (inM km) x.t) t.kids t.p _ t.cap w rfl (LTerm.len_le hlt) (hlt.imp fun _ h => (LtIn.iff.1 h).2.2) fun x hx w' hw' =>
              can_close b2 b x km w' (hb2.later hw') (hmp.later hw') ((kid_st hlt hx).later hw') fun w'' hw'' => hkid x hx w'' (hag.trans (hw'.trans hw''))
            refine sr S hcc ?_
            clear S hb2 hlt hmp hag hcc; rintro _ a w rfl S
            iterate 2 (refine sq S ?_; clear S; intro a S)
            refine wl_nil ?_
            refine xtn ?_
            refine c_ret ?_
            clear hkid hsec hcan hf hm
            refine end1 S (fun _ => ?_)
            clear S
            simp_all [canLF_any, List.any_map, Function.comp_def]
        · refine c_skip ?_
          refine xbn ?_
          refine xtn ?_
          refine c_seq ?_
          refine c_region ?_
          iterate 3 (refine sq S ?_; clear S; intro a S)
          have hb2 : Stable (fun _ => False) w (BoxF b2 119 [.map (some b)]) := BoxF.stable (S.boxF b2) (fun h => h)
          have hlt := S.mem.fact0 (LtF t)
          have hmp := S.mem.fact0 (MpF b (kvM km))
          have hag := S.wd.agree
          have hcc := contains_c 116 [.pointer (some ⟨b2, 0, none⟩)] (fun x => !canF (inM km) x.t) t.kids t.p _ t.cap w rfl (LTerm.len_le hlt) (hlt.imp fun _ h => (LtIn.iff.1 h).2.2) fun x hx w' hw' =>
            can_close b2 b x km w' (hb2.later hw') (hmp.later hw') ((kid_st hlt hx).later hw') fun w'' hw'' => hkid x hx w'' (hag.trans (hw'.trans hw''))
          refine sr S hcc ?_
          clear S hb2 hlt hmp hag hcc; rintro _ a w rfl S
          iterate 2 (refine sq S ?_; clear S; intro a S)
          refine wl_nil ?_
          refine xtn ?_
          refine c_ret ?_
          clear hkid hsec hcan hf hm
          refine end1 S (fun _ => ?_)
          clear S
          simp_all [canLF_any, List.any_map, Function.comp_def]
theorem can_secret_c (u : Int) (b : Nat) (km : List (List UInt8 × LTerm)) (w0 : World) (hm : Stable (fun _ => False) w0 (MpF b (kvM km))) :
    Ret Try.prog 80 [.map (some b), vL (secretL u)] w0 (fun _ => False) fun v _ => v = .bool (canF (inM km) (secretT u)) :=
  can_walk (secretL u) b km w0 (fun _ _ => by simp [LtF, LtIn, secretL, LsIn]) hm (fun h => absurd h (by simp [secretL, LTerm.kind])) (fun x hx => by simp [secretL, LTerm.kids] at hx)
theorem can_c0 (b : Nat) (km : List (List UInt8 × LTerm)) : ∀ (n : Nat) (t : LTerm) (w0 : World), SizeOf.sizeOf t < n → Stable (fun _ => False) w0 (LtF t) → Stable (fun _ => False) w0 (MpF b (kvM km)) →
    Ret Try.prog 80 [.map (some b), vL t] w0 (fun _ => False) fun v _ => v = .bool (canF (inM km) t.t)
  | 0, _, _, h, _, _ => absurd h (Nat.not_lt_zero _)
  | n + 1, t, w0, h, hf, hm => can_walk t b km w0 hf hm (fun _ w hw => can_secret_c _ b km w (hm.later hw)) (fun x hx w hw => can_c0 b km n x w (by have := LTerm.kid_lt hx; omega) ((kid_st hf hx).later hw) (hm.later hw))
theorem can_c (t : LTerm) (b : Nat) (km : List (List UInt8 × LTerm)) (w0 : World) (hf : Stable (fun _ => False) w0 (LtF t)) (hm : Stable (fun _ => False) w0 (MpF b (kvM km))) :
    Ret Try.prog 80 [.map (some b), vL t] w0 (fun _ => False) fun v _ => v = .bool (canF (inM km) t.t) := can_c0 b km _ t w0 (Nat.lt_succ_self _) hf hm
instance {t : LTerm} {b : Nat} {km : List (List UInt8 × LTerm)} {bs fs} [HasT fs t] [hm : HasMpF fs b (kvM km)] : CallV Try.prog 80 [.map (some b), vL t] bs fs (.bool (canF (inM km) t.t)) :=
  ⟨fun w m => can_c t b km w (m.t0 _) ((m.facts _ hm.mem).less fun _ _ h => h.elim)⟩
end Go.Proofs.Ytgielmldblopeaa
