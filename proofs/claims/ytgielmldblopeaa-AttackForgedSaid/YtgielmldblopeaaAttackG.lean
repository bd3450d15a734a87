/- Package attack: Forge. -/
import Derived.Test.YtgielmldblopeaaAttackF
import Derived.Test.YtgielmldblopeaaVault
import Derived.Test.YtgielmldblopeaaLawAttackB
namespace Go.Proofs.Ytgielmldblopeaa
open Go Go.Wk
set_option synthInstance.maxSize 100000
set_option synthInstance.maxHeartbeats 400000
set_option maxRecDepth 100000

theorem cnt_zeroT : cnt zeroT = 1 := rfl
theorem forge_c (us : List Int) (ks : List LTerm) (xs : List LRow) (pu pk px : Option Addr) (cu ck cx : Nat) (M : Nat → Prop) (w0 : World) (hM : ∀ k, M k → k < w0.heap.size) (hul : us.length ≤ 1000000) (hkl0 : ks.length ≤ 1000000) (hxl : xs.length ≤ 6) (hxc : xs.length ≤ cx) (hnm : ∀ x ∈ xs, x.name.length ≤ 40) (hu : Stable M w0 (SlF pu (encL us))) (hk : Stable M w0 (LsF pk 0 ks)) (hx : Stable M w0 (GlF px xs)) :
    Ret Try.prog 10 [vA pu us.length cu pk ks.length ck, .slice px xs.length cx] w0 (fun _ => False) fun v w' => ∃ (e : Int) (p : Option Addr) (c : Nat) (os : List LRow), v = .tuple ⟨[.slice p os.length c, .int .i64 e]⟩ ∧ os.length ≤ 6 ∧ (e ≠ 0 → os = []) ∧ (e = 0 → RightA (ks.map LTerm.t) us ∧ ∀ r ∈ os, r.term.t = zeroT ∨ (Good r.term.t ∧ derB (ks.map LTerm.t) r.term.t = true)) ∧ Stable M w' (GlF p os) := by
  refine enter Try.func10 rfl rfl (Wd.beginM (M := M) (fs := [SlF pu (encL us), LsF pk 0 ks, GlF px xs]) hM (by simp; exact ⟨hu, hk, hx⟩)) (fun a S => ?_)
  simp only [Try.ntmps10, List.length_cons, List.length_nil, Nat.reduceAdd, Nat.reduceSub, List.replicate_succ, List.replicate_zero, List.cons_append, List.nil_append] at S
  refine c_seq ?_
  refine c_region ?_
  refine sa S ?_; clear S; intro b2 a w S
  iterate 2 (refine sq S ?_; clear S; intro a S)
  refine wl_nil ?_
  refine xtn ?_
  iterate 2 (refine c_seq ?_)
  refine c_region ?_
  refine sq S ?_; clear S; intro a S
  refine sr S (acheck_c us ks pu pk cu ck _ hul (by omega) (S.mem.fact0 (SlF pu (encL us))) (S.mem.fact0 (LsF pk 0 ks))) ?_; clear S; rintro _ a w rfl S
  refine sq S ?_; clear S; intro a S
  refine wl_nil ?_
  refine xtn ?_
  refine c_seq ?_
  refine c_region ?_
  iterate 2 (refine sq S ?_; clear S; intro a S)
  refine wl_nil ?_
  refine xtn ?_
  refine c_cond S (fun h2 => ?_) (fun h2 => ?_)
  · refine c_seq ?_
    refine c_region ?_
    iterate 3 (refine sq S ?_; clear S; intro a S)
    refine wl_nil ?_
    refine xtn ?_
    refine c_ret ?_
    refine xtr ?_
    have hn : chkA (ks.map LTerm.t) us ≠ 0 := by simpa using h2
    refine end2 S (fun _ => ?_)
    exact ⟨_, none, 0, [], rfl, by simp, fun _ => rfl, fun h => absurd h hn, fun w _ => gl_nil⟩
  · refine c_skip ?_
    refine xtn ?_
    iterate 2 (refine c_seq ?_)
    have hR : RightA (ks.map LTerm.t) us := chkA_zero.1 (by simpa using h2)
    refine c_region ?_
    refine sq S ?_; clear S; intro a S
    refine sr S (vencode_c xs px cx w hxc hnm hxl (S.gl0 px)) ?_; clear S; rintro _ a w ⟨p4, n4, c4, e4, rfl⟩ S
    iterate 5 (refine sq S ?_; clear S; intro a S)
    refine wl_nil ?_
    refine xtn ?_
    refine c_seq ?_
    refine c_region ?_
    iterate 2 (refine sq S ?_; clear S; intro a S)
    refine wl_nil ?_
    refine xtn ?_
    refine c_cond S (fun h5 => ?_) (fun h5 => ?_)
    · refine c_seq ?_
      refine c_region ?_
      iterate 2 (refine sq S ?_; clear S; intro a S)
      refine wl_nil ?_
      refine xtn ?_
      refine c_ret ?_
      refine xtr ?_
      refine end2 S (fun _ => ?_)
      exact ⟨2, none, 0, [], rfl, by simp, fun _ => rfl, fun h => by omega, fun w _ => gl_nil⟩
    · refine c_skip ?_
      refine xtn ?_
      refine c_seq ?_
      refine c_region ?_
      refine sq S ?_; clear S; intro a S
      refine wl_nil ?_
      refine xtn ?_
      iterate 2 (refine c_seq ?_)
      refine c_region ?_
      iterate 3 (refine sq S ?_; clear S; intro a S)
      refine wl_nil ?_
      refine xtn ?_
      refine c_block ?_
      replace S := S.addNil 37 6
      refine c_fore4 S (fun (k : Nat) (os : List LRow) (p' : Option Addr) (c' : Nat) uu => [(4, uu 4), (0, uu 5), (3, .slice p' os.length c'), (1, uu 11), (0, uu 12), (0, uu 13), (14, .int .i64 (k : Nat)), (0, uu 29), (0, uu 30), (0, uu 31), (0, uu 32), (0, uu 33), (0, uu 34), (0, uu 35), (0, uu 36), (0, uu 37), (0, uu 38), (0, uu 39), (0, uu 40), (0, uu 41), (0, uu 42), (0, uu 43), (0, uu 44), (0, uu 45), (0, uu 46), (0, uu 47), (0, uu 48), (0, uu 49), (0, uu 50), (0, uu 51), (0, uu 52), (0, uu 53), (0, uu 54), (0, uu 55), (0, uu 56), (0, uu 57), (0, uu 58), (0, uu 59), (0, uu 60)]) (fun (k : Nat) (os : List LRow) (p' : Option Addr) (c' : Nat) => [Wk.row 37 6 p' os.length c' (encL os), Wk.box b2 25 [.slice pu us.length cu, .slice pk ks.length ck], ext M]) (fun (k : Nat) (os : List LRow) (p' : Option Addr) (c' : Nat) => [AllI os, SlF pu (encL us), LsF pk 0 ks, GlF px xs]) (fun (k : Nat) (os : List LRow) (p' : Option Addr) (c' : Nat) => k ≤ xs.length ∧ os.length = k ∧ ∀ r ∈ os, r.term.t = zeroT ∨ (Good r.term.t ∧ derB (ks.map LTerm.t) r.term.t = true)) (fun (k : Nat) (os : List LRow) (p' : Option Addr) (c' : Nat) => xs.length - k) (0) ([]) (none) (0) ?_ S.uu ?_ ?_
      · exact ⟨Nat.zero_le _, rfl, nofun⟩
      · exact S.add (Φ := AllI (α := LRow) []) AllI.nil
      · clear S; rintro k os p' c' uu a w ⟨hkk, hol, hos⟩ S
        refine c_seq ?_
        refine c_region ?_
        refine sq S ?_; clear S; intro a S
        refine wl_nil ?_
        refine xtn ?_
        refine c_seq ?_
        refine c_cond S (fun h9 => ?_) (fun h9 => ?_)
        · refine c_skip ?_
          refine xtn ?_
          refine c_seq ?_
          refine c_block ?_
          refine c_seq ?_
          have hkl : k < xs.length := by simp at h9; omega
          have hK : KLt k xs.length := ⟨hkl⟩
          refine c_region ?_
          iterate 2 (refine sq S ?_; clear S; intro a S)
          refine sa S ?_; clear S; intro b11 a w S
          refine sw S ?_; clear S; intro a w S
          refine wl_nil ?_
          refine xtn ?_
          refine c_mrgf0 S (fun  uu => [(4, uu 4), (0, uu 5), (6, uu 12), (0, uu 13), (18, uu 32), (0, uu 33), (0, uu 34), (0, uu 35), (0, uu 36), (0, uu 37), (0, uu 38), (0, uu 39), (0, uu 40), (0, uu 41), (0, uu 42), (0, uu 43), (0, uu 44), (0, uu 45), (0, uu 46), (0, uu 47), (0, uu 48), (0, uu 49), (0, uu 50)]) ([Wk.box b11 37 [str (nthG xs k).name, .int .i64 (nthG xs k).term.kind, .int .i64 (nthG xs k).term.user, .int .i64 (nthG xs k).term.num, str (nthG xs k).term.text, .slice (nthG xs k).term.p (nthG xs k).term.kids.length (nthG xs k).term.cap], Wk.row 37 6 p' os.length c' (encL os), Wk.box b2 25 [.slice pu us.length cu, .slice pk ks.length ck], ext M]) ((nthG xs k).term.t = zeroT ∨ (Good (nthG xs k).term.t ∧ derB (ks.map LTerm.t) (nthG xs k).term.t = true)) ?_ ?_
          · refine c_seq ?_
            refine c_region ?_
            iterate 3 (refine sq S ?_; clear S; intro a S)
            refine sr S (same_c (nthG xs k).term zeroL w (S.t0 _) (S.t0 _)) ?_; clear S; rintro _ a w rfl S
            refine sq S ?_; clear S; intro a S
            refine wl_nil ?_
            refine xtn ?_
            refine c_cond S (fun h11 => ?_) (fun h11 => ?_)
            · refine c_seq ?_
              refine c_region ?_
              iterate 4 (refine sq S ?_; clear S; intro a S)
              refine sr S (can_cl ks (nthG xs k).term pk ck w (S.mem.fact0 (LsF pk 0 ks)) (S.mem.t0 _)) ?_; clear S; rintro _ a w rfl S
              rw [chk_good hR, can_good hR] at S
              iterate 5 (refine sq S ?_; clear S; intro a S)
              refine wl_nil ?_
              refine xtn ?_
              refine c_seq ?_
              refine c_region ?_
              iterate 3 (refine sq S ?_; clear S; intro a S)
              iterate 2 (refine gQ S ?_; clear S; intro a S)
              refine sq S ?_; clear S; intro a S
              refine wl_nil ?_
              refine xtn ?_
              refine c_cond S (fun h13 => ?_) (fun h13 => ?_)
              · refine c_seq ?_
                refine c_region ?_
                iterate 2 (refine sq S ?_; clear S; intro a S)
                refine wl_nil ?_
                refine xtn ?_
                refine c_ret ?_
                refine xtr ?_
                refine xbr ?_
                iterate 2 (refine xtr ?_)
                refine xbr ?_
                refine xtr ?_
                refine end2 S (fun _ => ?_)
                exact ⟨321, none, 0, [], rfl, by simp, fun _ => rfl, fun h => by omega, fun w _ => gl_nil⟩
              · refine c_skip ?_
                refine xtn ?_
                refine ⟨S.uu, .inr ?_, S⟩
                cases hb : badF (nthG xs k).term.t with
                | true => simp [hb] at h13
                | false => simp [hb] at h13; exact ⟨badF_iff.1 hb, h13⟩
            · refine c_skip ?_
              refine xtn ?_
              refine ⟨S.uu, .inl ?_, S⟩
              have : sameF (nthG xs k).term.t zeroL.t = true := by simpa using h11
              exact (sameF_iff _ _).1 this
          · clear S; rintro  uu a w hterm S
            refine c_drawE [(0, true), (1, true), (2, true), (3, true), (4, true), (5, false), (6, true), (7, false), (8, false), (9, true)] [Wk.box b11 37 [str (nthG xs k).name, .int .i64 (nthG xs k).term.kind, .int .i64 (nthG xs k).term.user, .int .i64 (nthG xs k).term.num, str (nthG xs k).term.text, .slice (nthG xs k).term.p (nthG xs k).term.kids.length (nthG xs k).term.cap], Wk.box b2 25 [.slice pu us.length cu, .slice pk ks.length ck], ext M] S ?_; clear S; intro w S
            iterate 5 (refine dq S ?_; clear S; intro a S)
            refine dl ?_
            have hcnt : cnt (nthG xs k).term.t ≤ 1200 := by
              rcases hterm with h | h
              · rw [h, cnt_zeroT]; omega
              · exact good_le h.1
            refine sr S (copied_c (nthG xs k).term _ w hcnt (foots_lt S) (S.t (nthG xs k).term)) ?_; clear S; rintro _ a w ⟨r, rfl, hr, hrf⟩ S
            replace S := S.add hrf
            refine de S ?_
            refine dq S ?_; clear S; intro a S
            refine dl ?_
            refine sn S ?_; clear S; intro b58 a w S
            refine de S ?_
            refine dl ?_
            refine sap S (by simp [maxLen]; omega) (by omega) ?_; clear S; rintro p15 c15 a w - S
            rw [show encL os ++ [str (nthG xs k).name, .int .i64 r.kind, .int .i64 r.user, .int .i64 r.num, str r.text, .slice r.p r.kids.length r.cap] = encL (os ++ [LRow.mk (nthG xs k).name r]) from by rw [encL_append os [_]]; simp [encL, Enc.cells], show os.length + 1 = (os ++ [LRow.mk (nthG xs k).name r]).length from by simp] at S
            refine de S ?_
            refine dq S ?_; clear S; intro a S
            refine dn ?_
            refine xbn ?_
            refine xtn ?_
            refine c_region ?_
            iterate 2 (refine sq S ?_; clear S; intro a S)
            refine wl_nil ?_
            refine xtn ?_
            rw [w64 ((k : Int) + 1) (by omega) (by omega)] at S
            have h1 := S.wd.facts (AllI os) (by simp)
            have h2 := S.t r
            replace S := S.add (AllI.snoc (r := LRow.mk (nthG xs k).name r) h1 h2)
            refine ⟨k + 1, os ++ [LRow.mk (nthG xs k).name r], p15, c15, S.uu, ⟨hkl, by simp [hol], fun y hy => ?_⟩, S.sub _ _, by omega⟩
            rcases List.mem_append.1 hy with hy | hy
            · exact hos y hy
            · rw [List.mem_singleton.1 hy]; show r.t = zeroT ∨ _; rw [show (LRow.mk (nthG xs k).name r).term = r from rfl, hr]; exact hterm
        · refine c_exit ?_
          iterate 2 (refine xte ?_)
          refine xbe ?_
          refine xtn ?_
          refine c_seq ?_
          refine c_region ?_
          iterate 3 (refine sq S ?_; clear S; intro a S)
          refine wl_nil ?_
          refine xtn ?_
          refine c_ret ?_
          have hrow := S.row p' os.length
          have hnew := S.rowNew p' os.length
          have hall := S.laterFact (Φ := AllI os) (by simp)
          refine end2 S (fun _ => ?_)
          exact ⟨0, p', c', os, rfl, by omega, fun h => absurd rfl h, fun _ => ⟨hR, hos⟩, gl_own hrow hall (fun ad h hm => (hnew ad h).elim id (fun h2 => by have := hM _ hm; omega))⟩
end Go.Proofs.Ytgielmldblopeaa
