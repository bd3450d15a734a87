/- 5: a part of this claim's texts, joined: AttackB PlainAttack RefSame AttackC AttackD AttackE AttackF LawAttackA LawAttackB RefReckon. -/
import Derived.Test.YtibkkbknnfehlaaPa4
namespace Go.Proofs.Ytibkkbknnfehlaa
open Go Go.Wk
set_option synthInstance.maxSize 100000
set_option synthInstance.maxHeartbeats 400000
set_option maxRecDepth 100000
theorem clonei_c (ys : List Int) (p : Option Addr) (n c : Nat) (w0 : World) (hn : ys.length = n) (hl : n ≤ 10000000) (hx : Stable (fun _ => False) w0 (SlF p (encL ys))) :
    Ret Try.prog 50 [.slice p n c] w0 (fun _ => False) fun v w' => ∃ p' c', v = .slice p' n c' ∧ w'.ownsRow 0 3 1 (.slice p' n c') n (encL ys) ∧ (∀ ad, p' = some ad → w0.heap.size ≤ ad.block) ∧ (p = none → p' = none ∧ c' = 0) := by
  refine enter Try.func50 rfl rfl (Wd.begin (fs := [SlF p (encL ys)]) (by simpa using hx)) (fun a S => ?_)
  simp only [Try.ntmps50, List.length_cons, List.length_nil, Nat.reduceAdd, Nat.reduceSub, List.replicate_succ, List.replicate_zero, List.cons_append, List.nil_append] at S
  refine c_seq ?_; refine c_region ?_; refine sq S ?_; clear S; intro a S; refine wl_nil ?_; refine xtn ?_; (iterate 2 (refine c_seq ?_)); refine c_region ?_; (iterate 2 (refine sq S ?_; clear S; intro a S)); refine wl_nil ?_; refine xtn ?_
  refine c_cond S (fun h1 => ?_) (fun h1 => ?_)
  · refine c_seq ?_; refine c_region ?_; refine sq S ?_; clear S; intro a S; refine wl_nil ?_; refine xtn ?_; refine c_ret ?_; refine xtr ?_
    have hp : p = none := by simpa using h1
    have hx0 := hx.now.1 hp
    have hn0 : n = 0 := by
      have h1 := congrArg List.length hx0
      rw [encL_len] at h1
      have h2 : ys.length * 1 = 0 := h1
      omega
    subst hn0
    refine end1 S (fun _ => ?_)
    refine ⟨none, 0, rfl, ?_, (fun _ h => by cases h), fun _ => ⟨rfl, rfl⟩⟩
    rw [hx0]; exact World.ownsRow_nil _ _ _ _
  · refine c_skip ?_; refine xtn ?_; refine c_seq ?_; refine c_region ?_
    refine sn S ?_; clear S; intro b5 a w S
    refine sq S ?_; clear S; intro a S
    replace S := S.boxRow b5 1 0 rfl (by omega)
    have hN : LenN ys n := ⟨hn⟩
    refine sap S (by simp [maxLen]; omega) (by omega) ?_; clear S; rintro p2 c2 a w - S
    rw [List.nil_append, Nat.zero_add] at S
    refine sq S ?_; clear S; intro a S; refine wl_nil ?_; refine xtn ?_; refine c_ret ?_
    have hrow := S.row p2 n
    have hnew := S.rowNew p2 n
    refine end1 S (fun _ => ?_)
    exact ⟨p2, c2, rfl, hrow, fun ad h => (hnew ad h).elim (fun h => h.elim) id, fun h => by rw [h] at h1; simp at h1⟩
def ded : List (List UInt8) → List Term → List Term
  | _, [] => []
  | ns, t :: ts => if nameF t ∈ ns then ded ns ts else t :: ded (addN ns (nameF t)) ts
theorem learn_c (us : List Int) (ks ls : List LTerm) (pu pk pl : Option Addr) (cu ck cl : Nat) (M : Nat → Prop) (w0 : World) (hM : ∀ k, M k → k < w0.heap.size) (hul : us.length ≤ 1000000) (hkl : ks.length ≤ 1000) (hll : ls.length ≤ 1000)
    (hc : ∀ x ∈ ks ++ ls, cnt x.t ≤ 1200) (hu : Stable M w0 (SlF pu (encL us))) (hk : Stable M w0 (LsF pk 0 ks)) (hl : Stable M w0 (LsF pl 0 ls)) :
    Ret Try.prog 33 [vA pu us.length cu pk ks.length ck, .slice pl ls.length cl] w0 (fun _ => False) fun v w' => ∃ (e : Int) (pu' : Option Addr) (cu' : Nat) (pk' : Option Addr) (ck' : Nat) (us' : List Int) (ks' : List LTerm),
      v = .tuple ⟨[vA pu' us'.length cu' pk' ks'.length ck', .int .i64 e]⟩ ∧ Stable M w' (SlF pu' (encL us')) ∧ Stable M w' (LsF pk' 0 ks') ∧ (e = 0 ∨ e = 6) ∧ ((ded [] ((ks ++ ls).map LTerm.t)).length ≤ 500 → e = 0) ∧
      (e = 0 → us' = us ∧ ks'.map LTerm.t = ded [] ((ks ++ ls).map LTerm.t) ∧ ks'.length ≤ 500) ∧ (e ≠ 0 → us' = [] ∧ ks' = []) ∧ (pu = none → pu' = none ∧ cu' = 0) := by
  refine enter Try.func33 rfl rfl (Wd.beginM (M := M) (fs := [SlF pu (encL us), LsF pk 0 ks, LsF pl 0 ls]) hM (by simp; exact ⟨hu, hk, hl⟩)) (fun a S => ?_)
  simp only [Try.ntmps33, List.length_cons, List.length_nil, Nat.reduceAdd, Nat.reduceSub, List.replicate_succ, List.replicate_zero, List.cons_append, List.nil_append] at S
  refine c_seq ?_; refine c_region ?_
  refine sa S ?_; clear S; intro b2 a w S
  refine sa S ?_; clear S; intro b4 a w S
  refine sq S ?_; clear S; intro a S; refine wl_nil ?_; refine xtn ?_; refine c_seq ?_; refine c_region ?_; (iterate 2 (refine sq S ?_; clear S; intro a S))
  refine srn S (clonei_c us pu us.length cu _ rfl (by omega) (S.mem.fact0 (SlF pu (encL us)))) ?_; clear S; rintro _ a w ⟨pu', cu', rfl, hown, hnew, hnone⟩ hS -
  have S := hS hown hnew
  clear hS
  refine sq S ?_; clear S; intro a S
  refine sa S ?_; clear S; intro b6 a w S
  refine sw S ?_; clear S; intro a w S; refine wl_nil ?_; refine xtn ?_; refine c_seq ?_; refine c_region ?_
  refine smm S ?_; clear S; intro bm a w S
  refine sq S ?_; clear S; intro a S; refine wl_nil ?_; refine xtn ?_; (iterate 2 (refine c_seq ?_)); refine c_region ?_; (iterate 3 (refine sq S ?_; clear S; intro a S))
  refine sn S ?_; clear S; intro b18 a w S
  have hb := BoxF.stable (M := fun _ => False) (S.boxF b18) (fun h => h)
  refine srn S (concat_c ks ls pk pl ks.length ls.length ck cl b18 w rfl rfl (by omega) (by omega) (S.mem.fact0 (LsF pk 0 ks)) (S.mem.fact0 (LsF pl 0 ls)) hb) ?_; clear S hb; rintro _ a w ⟨p3, c3, rfl, hown, hnew⟩ hS -
  have S := hS hown hnew
  clear hS
  replace S := S.rowLs (fun x hx => by
    have h1 : Stable _ _ (LsF pk 0 ks) := S.wd.facts (LsF pk 0 ks) (by simp)
    have h2 : Stable _ _ (LsF pl 0 ls) := S.wd.facts (LsF pl 0 ls) (by simp)
    rcases List.mem_append.1 hx with hx | hx
    · exact kids_st h1.tl hx
    · exact kids_st h2.tl hx)
  obtain ⟨zs, hzs⟩ : ∃ zs, zs = ks ++ ls := ⟨_, rfl⟩
  rw [← List.length_append, ← hzs] at S
  (iterate 2 (refine sq S ?_; clear S; intro a S)); refine wl_nil ?_; refine xtn ?_; refine c_block ?_
  have hzl : zs.length ≤ 2000 := by rw [hzs, List.length_append]; omega
  rw [← hzs] at hc ⊢
  replace S := S.addNil 37 5
  refine c_loop (ι := Nat) (fun k a w => ∃ os pk' ck' ns, k ≤ zs.length ∧ os.length ≤ k ∧ os.map LTerm.t ++ ded ns ((zs.drop k).map LTerm.t) = ded [] (zs.map LTerm.t) ∧ ∃ uu : Nat → Value,  St w0 (fun _ => False) [] a w (uu 0 :: uu 1 :: (.pointer (some ⟨b2, 0, none⟩)) :: uu 3 :: (.pointer (some ⟨b4, 0, none⟩)) :: (.int .i64 0) :: (.pointer (some ⟨b6, 0, none⟩)) :: (.map (some bm)) :: uu 8 :: uu 9 :: uu 10 :: uu 11 :: uu 12 :: uu 13 :: uu 14 :: uu 15 :: uu 16 :: uu 17 :: uu 18 :: (.slice p3 zs.length c3) :: (.int .i64 zs.length) :: (.int .i64 (k : Nat)) :: uu 22 :: uu 23 :: uu 24 :: uu 25 :: uu 26 :: uu 27 :: uu 28 :: uu 29 :: uu 30 :: uu 31 :: uu 32 :: uu 33 :: uu 34 :: uu 35 :: uu 36 :: uu 37 :: uu 38 :: uu 39 :: uu 40 :: uu 41 :: [])
    [Wk.row 37 5 pk' os.length ck' (encL os), mp bm (kvT ns), Wk.box b6 25 [.slice pu' us.length cu', .slice pk' os.length ck'], Wk.row 3 1 pu' us.length cu' (encL us), Wk.box b4 25 [.slice none 0 0, .slice none 0 0], ext M] [AllL os, LsF p3 0 zs]) (fun k => zs.length - k) 0 ?_ ?_
  · refine ⟨[], none, 0, [], Nat.zero_le _, Nat.le_refl _, rfl, S.uu, ?_⟩
    replace S := S.add (Φ := AllL []) (fun _ _ x hx => by cases hx)
    exact S.sub [Wk.row 37 5 none 0 0 [], mp bm [], Wk.box b6 25 [.slice pu' us.length cu', .slice none 0 0], Wk.row 3 1 pu' us.length cu' (encL us), Wk.box b4 25 [.slice none 0 0, .slice none 0 0], ext M] [AllL [], LsF p3 0 zs]
  · clear S
    rintro k a w ⟨os, pk', ck', ns, hk, hok, hD, uu, S⟩
    refine c_seq ?_; refine c_region ?_; refine sq S ?_; clear S; intro a S; refine wl_nil ?_; refine xtn ?_; refine c_seq ?_
    refine c_cond S (fun h4 => ?_) (fun h4 => ?_)
    · refine c_skip ?_; refine xtn ?_; refine c_seq ?_; refine c_block ?_; refine c_seq ?_
      have hkl2 : k < zs.length := by simp at h4; omega
      have hK : KLt k zs.length := ⟨hkl2⟩
      rw [nth_drop hkl2, List.map_cons, ded] at hD
      refine c_region ?_; (iterate 2 (refine sq S ?_; clear S; intro a S))
      refine sa S ?_; clear S; intro b9 a w S
      refine sw S ?_; clear S; intro a w S; refine wl_nil ?_; refine xtn ?_; refine c_seq ?_; refine c_region ?_; (iterate 2 (refine sq S ?_; clear S; intro a S))
      refine sri (mp bm (kvT ns)) S (bput_c (nthL zs k) bm ns w (S.wd.held _ (by simp)) ((S.t (nthL zs k)).less (fun x _ hx => ⟨mp bm (kvT ns), by simp, hx⟩))) rfl ?_; clear S; rintro _ a w ⟨rfl, hm⟩ hS
      have S := hS (mp bm (kvT (addN ns (nameF (nthL zs k).t)))) _ inferInstance hm (fun k hk => .inl hk) (mp_lt hm) (mp_loc _ _)
      clear hS
      refine wl_nil ?_; refine xtn ?_
      refine c_cond S (fun h6 => ?_) (fun h6 => ?_)
      · refine c_drawT (.q 0 (.q 2 (.b2 1 3 (.l 3 (.l 4 (.l 5 (.q 6 (.l 7 (.e)))))) (.b2 1 4 (.l 4 (.l 5 (.q 6 (.l 7 (.e))))) (.l 1 (.l 5 (.q 6 (.l 7 (.e))))))))) [Wk.box b9 37 (nthL zs k).cells] S
          (fun a w => ∃ os' pk' ck', os'.length ≤ k + 1 ∧ os'.map LTerm.t = os.map LTerm.t ++ [(nthL zs k).t] ∧ ∃ uu : Nat → Value,  St w0 (fun _ => False) [] a w (uu 0 :: uu 1 :: (.pointer (some ⟨b2, 0, none⟩)) :: uu 3 :: (.pointer (some ⟨b4, 0, none⟩)) :: (.int .i64 0) :: (.pointer (some ⟨b6, 0, none⟩)) :: (.map (some bm)) :: uu 8 :: uu 9 :: uu 10 :: uu 11 :: uu 12 :: uu 13 :: uu 14 :: uu 15 :: uu 16 :: uu 17 :: uu 18 :: (.slice p3 zs.length c3) :: (.int .i64 zs.length) :: (.int .i64 (k : Nat)) :: uu 22 :: uu 23 :: uu 24 :: uu 25 :: uu 26 :: uu 27 :: uu 28 :: uu 29 :: uu 30 :: uu 31 :: uu 32 :: uu 33 :: uu 34 :: uu 35 :: uu 36 :: uu 37 :: uu 38 :: uu 39 :: uu 40 :: uu 41 :: [])
            [Wk.row 37 5 pk' os'.length ck' (encL os'), mp bm (kvT (addN ns (nameF (nthL zs k).t))), Wk.box b6 25 [.slice pu' us.length cu', .slice pk' os'.length ck'], Wk.row 3 1 pu' us.length cu' (encL us), Wk.box b4 25 [.slice none 0 0, .slice none 0 0], ext M] [AllL os', LsF p3 0 zs]) ?_ ?_
        · intro w S
          (iterate 2 (refine tq S ?_; clear S; intro a S))
          refine tb2 ?_ ?_
          · refine sq S ?_; clear S; intro a S; refine te S ?_; refine tl ?_
            refine sr S (copied_c (nthL zs k) _ w (hc _ (nth_mem hkl2)) (foots_lt S) (S.t (nthL zs k))) ?_; clear S; rintro _ a w ⟨r, rfl, hr, hrf⟩ S
            replace S := S.add hrf
            refine te S ?_; refine tl ?_
            refine sn S ?_; clear S; intro b32 a w S
            refine te S ?_; refine tl ?_
            refine sap S (by simp [maxLen]; omega) (by omega) ?_; clear S; rintro p7 c7 a w - S
            rw [show encL os ++ r.cells = encL (os ++ [r]) from by rw [encL_append os [r], encT_cells], show os.length + 1 = (os ++ [r]).length from by simp] at S
            refine te S ?_; refine tq S ?_; clear S; intro a S; refine tl ?_; refine sw S ?_; clear S; intro a w S; refine te S ?_; refine tn ?_
            refine ⟨os ++ [r], p7, c7, by simp; omega, by rw [List.map_append, List.map_singleton, hr], S.uu, ?_⟩
            have h1 : Stable _ _ (AllL os) := S.wd.facts (AllL os) (by simp)
            have h2 := S.t r
            replace S := S.add (Φ := AllL (os ++ [r])) (fun w' hw' x hx => by
              rcases List.mem_append.1 hx with h | h
              · exact h1 w' hw' x h
              · rw [List.mem_singleton.1 h]; exact h2 w' hw')
            exact S.sub _ _
          · refine sr S (copied_c (nthL zs k) _ w (hc _ (nth_mem hkl2)) (foots_lt S) (S.t (nthL zs k))) ?_; clear S; rintro _ a w ⟨r, rfl, hr, hrf⟩ S
            replace S := S.add hrf
            refine te S ?_
            refine tb2 ?_ ?_
            · refine sq S ?_; clear S; intro a S; refine te S ?_; refine tl ?_
              refine sn S ?_; clear S; intro b32 a w S
              refine te S ?_; refine tl ?_
              refine sap S (by simp [maxLen]; omega) (by omega) ?_; clear S; rintro p7 c7 a w - S
              rw [show encL os ++ r.cells = encL (os ++ [r]) from by rw [encL_append os [r], encT_cells], show os.length + 1 = (os ++ [r]).length from by simp] at S
              refine te S ?_; refine tq S ?_; clear S; intro a S; refine tl ?_; refine sw S ?_; clear S; intro a w S; refine te S ?_; refine tn ?_
              refine ⟨os ++ [r], p7, c7, by simp; omega, by rw [List.map_append, List.map_singleton, hr], S.uu, ?_⟩
              have h1 : Stable _ _ (AllL os) := S.wd.facts (AllL os) (by simp)
              have h2 := S.t r
              replace S := S.add (Φ := AllL (os ++ [r])) (fun w' hw' x hx => by
                rcases List.mem_append.1 hx with h | h
                · exact h1 w' hw' x h
                · rw [List.mem_singleton.1 h]; exact h2 w' hw')
              exact S.sub _ _
            · refine sn S ?_; clear S; intro b32 a w S
              refine te S ?_; refine tl ?_; refine sq S ?_; clear S; intro a S; refine te S ?_; refine tl ?_
              refine sap S (by simp [maxLen]; omega) (by omega) ?_; clear S; rintro p7 c7 a w - S
              rw [show encL os ++ r.cells = encL (os ++ [r]) from by rw [encL_append os [r], encT_cells], show os.length + 1 = (os ++ [r]).length from by simp] at S
              refine te S ?_; refine tq S ?_; clear S; intro a S; refine tl ?_; refine sw S ?_; clear S; intro a w S; refine te S ?_; refine tn ?_
              refine ⟨os ++ [r], p7, c7, by simp; omega, by rw [List.map_append, List.map_singleton, hr], S.uu, ?_⟩
              have h1 : Stable _ _ (AllL os) := S.wd.facts (AllL os) (by simp)
              have h2 := S.t r
              replace S := S.add (Φ := AllL (os ++ [r])) (fun w' hw' x hx => by
                rcases List.mem_append.1 hx with h | h
                · exact h1 w' hw' x h
                · rw [List.mem_singleton.1 h]; exact h2 w' hw')
              exact S.sub _ _
        rintro a w ⟨os', pk2, ck2, hol', hom', uu, S⟩
        refine xbn ?_; refine xtn ?_; refine c_region ?_; (iterate 2 (refine sq S ?_; clear S; intro a S)); refine wl_nil ?_; refine xtn ?_
        rw [if_neg (by simpa using h6)] at hD
        rw [w64 ((k : Int) + 1) (by omega) (by omega)] at S
        exact ⟨k + 1, ⟨os', pk2, ck2, _, hkl2, hol', by rw [hom', List.append_assoc]; exact hD, S.uu, S.sub _ _⟩, by omega⟩
      · refine c_skip ?_; refine xbn ?_; refine xtn ?_; refine c_region ?_; (iterate 2 (refine sq S ?_; clear S; intro a S)); refine wl_nil ?_; refine xtn ?_
        have hin : nameF (nthL zs k).t ∈ ns := by simpa using h6
        rw [if_pos hin] at hD
        rw [show addN ns (nameF (nthL zs k).t) = ns from by rw [addN, if_pos hin]] at S
        rw [w64 ((k : Int) + 1) (by omega) (by omega)] at S
        exact ⟨k + 1, ⟨os, pk', ck', _, hkl2, by omega, hD, S.uu, S.sub _ _⟩, by omega⟩
    · refine c_exit ?_; (iterate 2 (refine xte ?_)); refine xbe ?_; refine xtn ?_; (iterate 2 (refine c_seq ?_))
      rw [List.drop_of_length_le (by simp at h4; omega), List.map_nil, ded, List.append_nil] at hD
      refine c_region ?_; (iterate 4 (refine sq S ?_; clear S; intro a S)); refine wl_nil ?_; refine xtn ?_
      refine c_cond S (fun h9 => ?_) (fun h9 => ?_)
      · refine c_seq ?_; refine c_region ?_; refine sq S ?_; clear S; intro a S; refine sw S ?_; clear S; intro a w S; refine sq S ?_; clear S; intro a S; refine wl_nil ?_; refine xtn ?_; refine c_ret ?_; refine xtr ?_
        have h9' : 500 < os.length := by simp at h9; omega
        refine end2 S (fun _ => ?_)
        refine ⟨6, none, 0, none, 0, [], [], rfl, fun w _ => SlF.nil, fun w _ => by simp [LsF, LsIn], .inr rfl, fun h => ?_, fun h => by omega, fun _ => ⟨rfl, rfl⟩, fun _ => ⟨rfl, rfl⟩⟩
        rw [← hD, List.length_map] at h; omega
      · refine c_skip ?_; refine xtn ?_; refine c_seq ?_; refine c_region ?_; refine sq S ?_; clear S; intro a S; refine sw S ?_; clear S; intro a w S; refine sq S ?_; clear S; intro a S; refine wl_nil ?_; refine xtn ?_; refine c_ret ?_
        have h9' : os.length ≤ 500 := by simp at h9; omega
        have hrow := S.row pk' os.length
        have hnew := S.rowNew pk' os.length
        have hrowu := S.row pu' us.length
        have hnewu := S.rowNew pu' us.length
        have hall := S.laterFact (Φ := AllL os) (by simp)
        refine end2 S (fun _ => ?_)
        exact ⟨0, pu', cu', pk', ck', us, os, rfl, SlF.stable (own_sl hrowu) (fun ad h hm => (hnewu ad h).elim id (fun h2 => by have := hM _ hm; omega)),
          ls_of_own hrow (fun x hx => AllL.get hall hx) (fun ad h hm => (hnew ad h).elim id (fun h2 => by have := hM _ hm; omega)), .inl rfl, fun _ => rfl, fun _ => ⟨rfl, hD, h9'⟩, fun h => absurd rfl h, hnone⟩
theorem badF_iff {t : Term} : badF t = false ↔ Good t := by unfold badF; rw [← good_check]; simp
theorem any_bad {ts : List Term} : ts.any badF = false ↔ ∀ t ∈ ts, Good t := by
  rw [List.any_eq_false]
  exact ⟨fun h t ht => badF_iff.1 (by simpa using h t ht), fun h t ht => by simpa using badF_iff.2 (h t ht)⟩
theorem Learn_c (us : List Int) (ks ls : List LTerm) (pu pk pl : Option Addr) (cu ck cl : Nat) (M : Nat → Prop) (w0 : World) (hM : ∀ k, M k → k < w0.heap.size) (hul : us.length ≤ 1000000) (hkl : ks.length ≤ 1000) (hll : ls.length ≤ 1000)
    (hu : Stable M w0 (SlF pu (encL us))) (hk : Stable M w0 (LsF pk 0 ks)) (hl : Stable M w0 (LsF pl 0 ls)) :
    Ret Try.prog 18 [vA pu us.length cu pk ks.length ck, .slice pl ls.length cl] w0 (fun _ => False) fun v w' => ∃ (e : Int) (pu' : Option Addr) (cu' : Nat) (pk' : Option Addr) (ck' : Nat) (us' : List Int) (ks' : List LTerm),
      v = .tuple ⟨[vA pu' us'.length cu' pk' ks'.length ck', .int .i64 e]⟩ ∧ Stable M w' (SlF pu' (encL us')) ∧ Stable M w' (LsF pk' 0 ks') ∧
      (RightA (ks.map LTerm.t) us → (∀ t ∈ ls.map LTerm.t, Good t) → (e = 0 ∨ e = 6) ∧ ((ded [] ((ks ++ ls).map LTerm.t)).length ≤ 500 → e = 0)) ∧
      (e = 0 → RightA (ks.map LTerm.t) us ∧ (∀ t ∈ ls.map LTerm.t, Good t) ∧ us' = us ∧ ks'.map LTerm.t = ded [] ((ks ++ ls).map LTerm.t) ∧ ks'.length ≤ 500) ∧ (e ≠ 0 → us' = [] ∧ ks' = []) ∧ (pu = none → pu' = none ∧ cu' = 0) := by
  refine enter Try.func18 rfl rfl (Wd.beginM (M := M) (fs := [SlF pu (encL us), LsF pk 0 ks, LsF pl 0 ls]) hM (by simp; exact ⟨hu, hk, hl⟩)) (fun a S => ?_)
  simp only [Try.ntmps18, List.length_cons, List.length_nil, Nat.reduceAdd, Nat.reduceSub, List.replicate_succ, List.replicate_zero, List.cons_append, List.nil_append] at S
  refine c_seq ?_; refine c_region ?_
  refine sa S ?_; clear S; intro b2 a w S
  refine sa S ?_; clear S; intro b4 a w S
  refine sq S ?_; clear S; intro a S; refine wl_nil ?_; refine xtn ?_; (iterate 2 (refine c_seq ?_)); refine c_region ?_; refine sq S ?_; clear S; intro a S
  refine sr S (acheck_c us ks pu pk cu ck _ hul (by omega) (S.mem.fact0 (SlF pu (encL us))) (S.mem.fact0 (LsF pk 0 ks))) ?_; clear S; rintro _ a w rfl S
  refine sq S ?_; clear S; intro a S; refine wl_nil ?_; refine xtn ?_; refine c_seq ?_; refine c_region ?_; (iterate 2 (refine sq S ?_; clear S; intro a S)); refine wl_nil ?_; refine xtn ?_
  refine c_cond S (fun h2 => ?_) (fun h2 => ?_)
  · refine c_seq ?_; refine c_region ?_; (iterate 2 (refine sq S ?_; clear S; intro a S)); refine sw S ?_; clear S; intro a w S; refine sq S ?_; clear S; intro a S; refine wl_nil ?_; refine xtn ?_; refine c_ret ?_; refine xtr ?_
    have hn : ¬ RightA (ks.map LTerm.t) us := fun h => by rw [chkA_pos h] at h2; simp at h2
    refine end2 S (fun _ => ?_)
    exact ⟨_, none, 0, none, 0, [], [], rfl, fun w _ => SlF.nil, fun w _ => by simp [LsF, LsIn], fun h => absurd h hn, fun h => absurd (chkA_zero.1 h) hn, fun _ => ⟨rfl, rfl⟩, fun _ => ⟨rfl, rfl⟩⟩
  · refine c_skip ?_; refine xtn ?_; (iterate 2 (refine c_seq ?_))
    have hR : RightA (ks.map LTerm.t) us := chkA_zero.1 (by simpa using h2)
    refine c_region ?_; refine sq S ?_; clear S; intro a S
    refine sr S (aright_c ls pl cl w (by omega) (S.mem.fact0 (LsF pl 0 ls))) ?_; clear S; rintro _ a w rfl S
    refine sq S ?_; clear S; intro a S; refine wl_nil ?_; refine xtn ?_; refine c_seq ?_; refine c_region ?_; (iterate 2 (refine sq S ?_; clear S; intro a S)); refine wl_nil ?_; refine xtn ?_
    refine c_cond S (fun h5 => ?_) (fun h5 => ?_)
    · refine c_seq ?_; refine c_region ?_; (iterate 2 (refine sq S ?_; clear S; intro a S)); refine sw S ?_; clear S; intro a w S; refine sq S ?_; clear S; intro a S; refine wl_nil ?_; refine xtn ?_; refine c_ret ?_; refine xtr ?_
      have hb : (ls.map LTerm.t).any badF = true := by
        cases hq : (ls.map LTerm.t).any badF with
        | true => rfl
        | false => rw [hq] at h5; simp at h5
      rw [if_pos hb] at S
      have hn : ¬ ∀ t ∈ ls.map LTerm.t, Good t := fun h => by rw [any_bad.2 h] at hb; cases hb
      refine end2 S (fun _ => ?_)
      exact ⟨150, none, 0, none, 0, [], [], rfl, fun w _ => SlF.nil, fun w _ => by simp [LsF, LsIn], fun _ h => absurd h hn, fun h => by omega, fun _ => ⟨rfl, rfl⟩, fun _ => ⟨rfl, rfl⟩⟩
    · refine c_skip ?_; refine xtn ?_; refine c_seq ?_
      have hb : (ls.map LTerm.t).any badF = false := by
        cases hq : (ls.map LTerm.t).any badF with
        | false => rfl
        | true => rw [hq] at h5; simp at h5
      have hG := any_bad.1 hb
      refine c_region ?_; (iterate 2 (refine sq S ?_; clear S; intro a S))
      have hc : ∀ x ∈ ks ++ ls, cnt x.t ≤ 1200 := fun x hx => by
        rcases List.mem_append.1 hx with hx | hx
        · exact good_le (hR.1.2.1 _ (List.mem_map.2 ⟨x, hx, rfl⟩))
        · exact good_le (hG _ (List.mem_map.2 ⟨x, hx, rfl⟩))
      refine sr S (learn_c us ks ls pu pk pl cu ck cl _ w (foots_lt S) hul hkl hll hc (S.wd.facts (SlF pu (encL us)) (by simp)) (S.wd.facts (LsF pk 0 ks) (by simp)) (S.wd.facts (LsF pl 0 ls) (by simp))) ?_; clear S; rintro _ a w ⟨e, pu', cu', pk', ck', us', ks', rfl, hu', hk', he1, he2, he3, he4, he5⟩ S
      replace S := (S.add hu').add hk'
      (iterate 2 (refine sq S ?_; clear S; intro a S)); refine sw S ?_; clear S; intro a w S; refine sq S ?_; clear S; intro a S; refine wl_nil ?_; refine xtn ?_; refine c_ret ?_
      have h1 := S.laterFact (Φ := SlF pu' (encL us')) (by simp)
      have h2 := S.laterFact (Φ := LsF pk' 0 ks') (by simp)
      refine end2 S (fun _ => ?_)
      exact ⟨e, pu', cu', pk', ck', us', ks', rfl, h1, h2, fun _ _ => ⟨he1, he2⟩, fun h => ⟨hR, hG, he3 h⟩, he4, he5⟩
theorem acan_c (us : List Int) (ks : List LTerm) (t : LTerm) (pu pk : Option Addr) (cu ck : Nat) (w0 : World) (hul : us.length ≤ 1000000) (hkl0 : ks.length ≤ 1000000) (hu : Stable (fun _ => False) w0 (SlF pu (encL us))) (hk : Stable (fun _ => False) w0 (LsF pk 0 ks)) (ht : Stable (fun _ => False) w0 (LtF t)) :
    Ret Try.prog 12 [vA pu us.length cu pk ks.length ck, vL t] w0 (fun _ => False) fun v _ => (RightA (ks.map LTerm.t) us → v = .tuple ⟨[.bool (canB (ks.map LTerm.t) t.t), .int .i64 (chkF (ks.map LTerm.t) [t.t])]⟩) ∧ (¬ RightA (ks.map LTerm.t) us → v = .tuple ⟨[.bool false, .int .i64 320]⟩) := by
  refine enter Try.func12 rfl rfl (Wd.begin (fs := [SlF pu (encL us), LsF pk 0 ks, LtF t]) (by simp; exact ⟨hu, hk, ht⟩)) (fun a S => ?_)
  simp only [Try.ntmps12, List.length_cons, List.length_nil, Nat.reduceAdd, Nat.reduceSub, List.replicate_succ, List.replicate_zero, List.cons_append, List.nil_append] at S
  refine c_seq ?_; refine c_region ?_
  refine sa S ?_; clear S; intro b2 a w S
  refine sa S ?_; clear S; intro b3 a w S
  (iterate 2 (refine sq S ?_; clear S; intro a S)); refine wl_nil ?_; refine xtn ?_; (iterate 2 (refine c_seq ?_)); refine c_region ?_; refine sq S ?_; clear S; intro a S
  refine sr S (acheck_c us ks pu pk cu ck _ hul (by omega) (S.mem.fact0 (SlF pu (encL us))) (S.mem.fact0 (LsF pk 0 ks))) ?_; clear S; rintro _ a w rfl S
  refine sq S ?_; clear S; intro a S; refine wl_nil ?_; refine xtn ?_; refine c_seq ?_; refine c_region ?_; (iterate 2 (refine sq S ?_; clear S; intro a S)); refine wl_nil ?_; refine xtn ?_
  refine c_cond S (fun h2 => ?_) (fun h2 => ?_)
  · refine c_seq ?_; refine c_region ?_; (iterate 3 (refine sq S ?_; clear S; intro a S)); refine wl_nil ?_; refine xtn ?_; refine c_ret ?_; refine xtr ?_
    have hn : ¬ RightA (ks.map LTerm.t) us := fun h => by rw [chkA_pos h] at h2; simp at h2
    rw [chkA_neg hn] at S
    refine end2 S (fun _ => ?_)
    exact ⟨fun h => absurd h hn, fun _ => rfl⟩
  · refine c_skip ?_; refine xtn ?_; refine c_seq ?_; refine c_region ?_; (iterate 3 (refine sq S ?_; clear S; intro a S))
    have hR : RightA (ks.map LTerm.t) us := chkA_zero.1 (by simpa using h2)
    refine sr S (can_cl ks t pk ck w (S.mem.fact0 (LsF pk 0 ks)) (S.mem.t0 t)) ?_; clear S; rintro _ a w rfl S
    (iterate 4 (refine sq S ?_; clear S; intro a S)); refine wl_nil ?_; refine xtn ?_; refine c_ret ?_
    refine end2 S (fun _ => ?_)
    exact ⟨fun _ => rfl, fun h => absurd hR h⟩
theorem ded_nodup : ∀ (ns : List (List UInt8)) (ts : List Term), (∀ t ∈ ts, Good t) → ts.Nodup → (∀ s ∈ ns, ∀ t ∈ ts, s ≠ nameF t) → ded ns ts = ts
  | _, [], _, _, _ => rfl
  | ns, t :: ts, hg, hn, hs => by
    have hn2 := List.nodup_cons.1 hn
    rw [ded, if_neg (fun h => hs _ h t (by simp) rfl), ded_nodup (addN ns (nameF t)) ts (fun x hx => hg x (by simp [hx])) hn2.2 fun s h x hx => ?_]
    rcases mem_addN.1 h with h | rfl
    · exact hs s h x (by simp [hx])
    · intro he
      have := name_inj (hg t (by simp)) (hg x (by simp [hx])) he
      subst this
      exact hn2.1 hx
def wK : Term := .mk 2 1 2 [] []
def wN : Term := .mk 2 1 1 [] []
def wT1 : Term := .mk 6 0 0 [] [wK, wN]
def wT2 : Term := .mk 7 2 0 [] [wK]
def wF : Term := .mk 2 2 0 [] []
theorem wK_good : Good wK := good_walk.2 rfl
theorem wN_good : Good wN := good_walk.2 rfl
theorem wT1_good : Good wT1 := good_walk.2 rfl
theorem wT2_good : Good wT2 := good_walk.2 rfl
theorem wF_good : Good wF := good_walk.2 rfl
theorem wS_good : Good (secretT 2) := good_secret (by omega)
theorem wake_nodup : [wT1, wT2, secretT 2, wF].Nodup := by simp [wT1, wT2, wF, secretT, wK, wN]
theorem wake_good : ∀ t ∈ [wT1, wT2, secretT 2, wF], Good t := by simp; exact ⟨wT1_good, wT2_good, wS_good, wF_good⟩
theorem wake_a : RightA [wT1, wT2] [] := ⟨⟨by simp, by simp; exact ⟨wT1_good, wT2_good⟩, by simp [wT1, wT2]⟩, fun i hi => by simp at hi⟩
theorem wake_b : RightA [wT1, wT2, secretT 2, wF] [2] := ⟨⟨by simp, wake_good, wake_nodup⟩, fun i hi => by
  have : i = 0 := by simpa using hi
  subst this
  refine ⟨by simp [nthI], ?_, ?_⟩
  · simp [lastU, nthI]
  · simp [nthI]⟩
theorem wake_0 : RightA [] [] := ⟨⟨by simp, by simp, by simp⟩, fun i hi => by simp at hi⟩
theorem wake_no {t : Term} (ht : t = wN ∨ t = wK ∨ t = secretT 2) : derB [wT1, wT2] t = false := by
  cases h : derB [wT1, wT2] t with
  | false => rfl
  | true =>
    refine absurd (derB_iff.1 h) (not_der_of (N := fun t => t = wN ∨ t = wK ∨ t = secretT 2) (fun k u n s ks hn => ?_) (fun t ht => ?_) ht)
    · rcases hn with hn | hn | hn <;> (simp only [wK, wN, secretT, Term.mk.injEq] at hn; obtain ⟨rfl, _⟩ := hn; exact ⟨by omega, by omega⟩)
    · simp only [List.mem_cons, List.not_mem_nil, or_false] at ht
      rcases ht with rfl | rfl
      · refine .mk (fun hn => ?_) (fun h => by omega) (fun _ key rest he hnk => ?_) (fun h => by omega)
        · rcases hn with hn | hn | hn <;> (simp only [wK, wN, secretT, Term.mk.injEq] at hn; omega)
        · simp only [List.cons.injEq] at he; exact absurd (.inr (.inl he.1.symm)) hnk
      · refine .mk (fun hn => ?_) (fun h => by omega) (fun h => by omega) (fun _ hn => absurd (.inr (.inr rfl)) hn)
        rcases hn with hn | hn | hn <;> (simp only [wK, wN, secretT, Term.mk.injEq] at hn; omega)
theorem wake_k : derB [wT1, wT2, secretT 2, wF] wK = true := derB_iff.2 (.open7 (u := 2) (n := 0) (s := []) (ks := [wK]) (.known (by simp [wT2])) (.known (by simp)) (by simp))
theorem wake_n : derB [wT1, wT2, secretT 2, wF] wN = true := derB_iff.2 (.unlock (u := 0) (n := 0) (s := []) (key := wK) (ks := [wN]) (.known (by simp [wT1])) (derB_iff.1 wake_k) (by simp))
theorem wake_ded2 : ded [] [wT1, wT2] = [wT1, wT2] := ded_nodup [] _ (by simp; exact ⟨wT1_good, wT2_good⟩) (by simp [wT1, wT2]) nofun
theorem wake_ded4 : ded [] [wT1, wT2, secretT 2, wF] = [wT1, wT2, secretT 2, wF] := ded_nodup [] _ wake_good wake_nodup nofun
theorem sameF_mk (x y : LTerm) : sameF x.t y.t = (decide (x.kind = y.kind) && decide (x.user = y.user) && decide (x.num = y.num) && decide (x.text = y.text) && sameLF (x.kids.map LTerm.t) (y.kids.map LTerm.t)) := by
  rw [x.t_eq, y.t_eq, sameF]
theorem rsame_all (N : Nat) : ∀ (x y : LTerm) (w0 : World), SizeOf.sizeOf x ≤ N → Stable (fun _ => False) w0 (LtF x) → Stable (fun _ => False) w0 (LtF y) →
    Ret Try.prog 29 [vL x, vL y] w0 (fun _ => False) fun v _ => v = .bool (sameF x.t y.t) := by
  induction N with
  | zero => intro x _ _ h; cases x; simp at h
  | succ N ih =>
  intro x y w0 hN hx hy
  have e0 := sameF_mk x y
  have hlen := LTerm.len_le hx
  refine enter Try.func29 rfl rfl (Wd.begin (fs := [LtF x, LtF y]) (by simp; exact ⟨hx, hy⟩)) (fun a S => ?_)
  simp only [Try.ntmps29, List.length_cons, List.length_nil, Nat.reduceAdd, Nat.reduceSub, List.replicate_succ, List.replicate_zero, List.cons_append, List.nil_append] at S
  refine c_seq ?_; refine c_region ?_
  refine sa S ?_; clear S; intro b2 a w S
  refine sa S ?_; clear S; intro b3 a w S
  refine sq S ?_; clear S; intro a S; refine wl_nil ?_; refine xtn ?_; (iterate 2 (refine c_seq ?_)); refine c_region ?_; (iterate 6 (refine sq S ?_; clear S; intro a S)); (iterate 5 (refine gQ S ?_; clear S; intro a S)); (iterate 2 (refine sq S ?_; clear S; intro a S)); (iterate 5 (refine gQ S ?_; clear S; intro a S)); (iterate 2 (refine sq S ?_; clear S; intro a S)); (iterate 5 (refine gQ S ?_; clear S; intro a S))
  (iterate 2 (refine sq S ?_; clear S; intro a S)); (iterate 7 (refine gQ S ?_; clear S; intro a S)); refine sq S ?_; clear S; intro a S; refine wl_nil ?_; refine xtn ?_
  refine c_cond S (fun h1 => ?_) (fun h1 => ?_)
  · refine c_seq ?_; refine c_region ?_; refine sq S ?_; clear S; intro a S; refine wl_nil ?_; refine xtn ?_; refine c_ret ?_; refine xtr ?_
    refine end1 S (fun _ => ?_)
    have h3 : ¬ (x.kind = y.kind ∧ x.user = y.user ∧ x.num = y.num ∧ x.text = y.text ∧ x.kids.length = y.kids.length) := by
      rintro ⟨q1, q2, q3, q4, q5⟩; simp [q1, q2, q3, q4, q5] at h1
    rw [e0]
    congr 1
    cases hs : (decide (x.kind = y.kind) && decide (x.user = y.user) && decide (x.num = y.num) && decide (x.text = y.text) && sameLF (x.kids.map LTerm.t) (y.kids.map LTerm.t)) with
    | false => rfl
    | true =>
      simp at hs
      obtain ⟨⟨⟨⟨q1, q2⟩, q3⟩, q4⟩, q5⟩ := hs
      have := congrArg List.length ((sameLF_iff _ _).1 q5)
      exact absurd ⟨q1, q2, q3, q4, by simpa using this⟩ h3
  · refine c_skip ?_; refine xtn ?_; (iterate 2 (refine c_seq ?_)); refine c_region ?_; refine sq S ?_; clear S; intro a S; refine wl_nil ?_; refine xtn ?_; refine c_block ?_
    have h3 : (x.kind = y.kind ∧ x.user = y.user ∧ x.num = y.num ∧ x.text = y.text) ∧ x.kids.length = y.kids.length := by simp [and_assoc] at h1; simpa [and_assoc, Int.ofNat_inj] using h1
    obtain ⟨⟨q1, q2, q3, q4⟩, q5⟩ := h3
    have e1 : sameF x.t y.t = sameLF (x.kids.map LTerm.t) (y.kids.map LTerm.t) := by rw [e0]; simp [q1, q2, q3, q4]
    refine c_loop (ι := Nat) (fun k a w => k ≤ x.kids.length ∧ sameLF ((x.kids.drop k).map LTerm.t) ((y.kids.drop k).map LTerm.t) = sameF x.t y.t ∧ ∃ uu : Nat → Value,  St w0 (fun _ => False) [] a w ((vL x) :: (vL y) :: (.pointer (some ⟨b2, 0, none⟩)) :: (.pointer (some ⟨b3, 0, none⟩)) :: (.bool false) :: (.int .i64 (k : Nat)) :: uu 6 :: uu 7 :: uu 8 :: uu 9 :: uu 10 :: uu 11 :: uu 12 :: uu 13 :: uu 14 :: uu 15 :: uu 16 :: uu 17 :: uu 18 :: uu 19 :: uu 20 :: uu 21 :: uu 22 :: uu 23 :: uu 24 :: uu 25 :: uu 26 :: uu 27 :: uu 28 :: uu 29 :: uu 30 :: uu 31 :: uu 32 :: uu 33 :: uu 34 :: uu 35 :: uu 36 :: uu 37 :: uu 38 :: uu 39 :: uu 40 :: uu 41 :: uu 42 :: uu 43 :: uu 44 :: uu 45 :: uu 46 :: uu 47 :: uu 48 :: uu 49 :: uu 50 :: uu 51 :: uu 52 :: uu 53 :: uu 54 :: uu 55 :: uu 56 :: uu 57 :: uu 58 :: uu 59 :: []) [box b3 37 y.cells, box b2 37 x.cells] [LtF x, LtF y]) (fun k => x.kids.length - k) 0 ?_ ?_
    · exact ⟨Nat.zero_le _, e1.symm, S.uu, S⟩
    · clear S
      rintro k a w ⟨hk, hrel, uu, S⟩
      have hK : k < x.kids.length → KLt k x.kids.length ∧ KLt k y.kids.length := fun h => ⟨⟨h⟩, ⟨by omega⟩⟩
      (iterate 2 (refine c_seq ?_)); refine c_region ?_; (iterate 5 (refine sq S ?_; clear S; intro a S)); refine wl_nil ?_; refine xtn ?_
      refine c_cond S (fun h4 => ?_) (fun h4 => ?_)
      · refine c_skip ?_; refine xtn ?_; refine c_seq ?_; refine c_block ?_
        have hkl : k < x.kids.length := by simpa using h4
        obtain ⟨hK1, hK2⟩ := hK hkl
        refine c_seq ?_
        refine c_drawD [(0, true), (1, true), (2, true), (3, true), (4, true), (5, true), (6, true), (7, true), (8, true), (9, true), (10, false), (11, true)] [] S ?_; clear S; intro w S
        (iterate 10 (refine dq S ?_; clear S; intro a S)); refine dl ?_
        rw [nth_drop hkl, nth_drop (show k < y.kids.length by omega), List.map_cons, List.map_cons, sameLF] at hrel
        refine sr S (ih (nthL x.kids k) (nthL y.kids k) w (by have := LTerm.kid_lt (nth_mem hkl); omega) (S.t0 _) (S.t0 _)) ?_; clear S; rintro _ a w rfl S
        refine de S ?_; refine dq S ?_; clear S; intro a S; refine dn ?_; refine xtn ?_
        refine c_cond S (fun h6 => ?_) (fun h6 => ?_)
        · refine c_seq ?_; refine c_region ?_; refine sq S ?_; clear S; intro a S; refine wl_nil ?_; refine xtn ?_; refine c_ret ?_; refine xbr ?_; (iterate 2 (refine xtr ?_)); refine xbr ?_; refine xtr ?_
          refine end1 S (fun _ => ?_)
          have h9 : sameF (nthL x.kids k).t (nthL y.kids k).t = false := by simpa using h6
          simp [← hrel, h9]
        · refine c_skip ?_; refine xbn ?_; refine xtn ?_; refine c_region ?_; (iterate 3 (refine sq S ?_; clear S; intro a S)); refine wl_nil ?_; refine xtn ?_
          have h9 : sameF (nthL x.kids k).t (nthL y.kids k).t = true := by simpa using h6
          rw [h9, Bool.true_and] at hrel
          rw [w64 ((k : Int) + 1) (by omega) (by omega)] at S
          exact ⟨k + 1, ⟨hkl, hrel, S.uu, S⟩, by omega⟩
      · refine c_exit ?_; (iterate 2 (refine xte ?_)); refine xbe ?_; refine xtn ?_; refine c_seq ?_; refine c_region ?_; refine sq S ?_; clear S; intro a S; refine wl_nil ?_; refine xtn ?_; refine c_ret ?_
        refine end1 S (fun _ => ?_)
        have h9 : x.kids.length ≤ k := by simpa using h4
        rw [List.drop_of_length_le h9, List.drop_of_length_le (by omega)] at hrel
        simp [← hrel, sameLF]
theorem rsame_c (x y : LTerm) (w : World) (hx : Stable (fun _ => False) w (LtF x)) (hy : Stable (fun _ => False) w (LtF y)) : Ret Try.prog 29 [vL x, vL y] w (fun _ => False) fun v _ => v = .bool (sameF x.t y.t) := rsame_all _ x y w (Nat.le_refl _) hx hy
instance {x y : LTerm} {bs fs} [HasT fs x] [HasT fs y] : CallV Try.prog 29 [vL x, vL y] bs fs (.bool (sameF x.t y.t)) := ⟨fun w m => rsame_c x y w (m.t0 _) (m.t0 _)⟩
theorem rsameall_c (p q : Option Addr) (c e : Nat) (xs ys : List LTerm) (w0 : World) (hl : xs.length ≤ 1000000000) (hx : Stable (fun _ => False) w0 (LsF p 0 xs)) (hy : Stable (fun _ => False) w0 (LsF q 0 ys)) :
    Ret Try.prog 10 [.slice p xs.length c, .slice q ys.length e] w0 (fun _ => False) fun v _ => v = .bool (sameLF (xs.map LTerm.t) (ys.map LTerm.t)) := by
  refine enter Try.func10 rfl rfl (Wd.begin (fs := [LsF p 0 xs, LsF q 0 ys]) (by simp; exact ⟨hx, hy⟩)) (fun a S => ?_)
  simp only [Try.ntmps10, List.length_cons, List.length_nil, Nat.reduceAdd, Nat.reduceSub, List.replicate_succ, List.replicate_zero, List.cons_append, List.nil_append] at S
  refine c_seq ?_; refine c_region ?_; refine sq S ?_; clear S; intro a S; refine wl_nil ?_; refine xtn ?_; (iterate 2 (refine c_seq ?_)); refine c_region ?_; (iterate 5 (refine sq S ?_; clear S; intro a S)); refine wl_nil ?_; refine xtn ?_
  refine c_cond S (fun h1 => ?_) (fun h1 => ?_)
  · refine c_seq ?_; refine c_region ?_; refine sq S ?_; clear S; intro a S; refine wl_nil ?_; refine xtn ?_; refine c_ret ?_; refine xtr ?_
    refine end1 S (fun _ => ?_)
    rw [sameLF_len (by simp at h1 ⊢; omega)]
  · refine c_skip ?_; refine xtn ?_; (iterate 2 (refine c_seq ?_)); refine c_region ?_; refine sq S ?_; clear S; intro a S; refine wl_nil ?_; refine xtn ?_; refine c_block ?_
    have hle : xs.length = ys.length := by simp at h1; omega
    refine c_forb1 S (fun (k : Nat) uu => [(4, uu 4), (0, .int .i64 (k : Nat)), (5, uu 11), (0, uu 12), (0, uu 13), (0, uu 14), (0, uu 15), (0, uu 16), (0, uu 17), (0, uu 18), (0, uu 19), (0, uu 20), (0, uu 21), (0, uu 22), (0, uu 23), (0, uu 24), (0, uu 25), (0, uu 26)]) (fun (k : Nat) => k ≤ xs.length ∧ sameLF ((xs.drop k).map LTerm.t) ((ys.drop k).map LTerm.t) = sameLF (xs.map LTerm.t) (ys.map LTerm.t)) (fun (k : Nat) => xs.length - k) (0) ?_ S.uu ?_ ?_
    · exact ⟨Nat.zero_le _, rfl⟩
    · first | exact S | exact S.sub _ _
    · clear S; rintro k uu a w ⟨hk, hrel⟩ S
      (iterate 2 (refine c_seq ?_)); refine c_region ?_; (iterate 4 (refine sq S ?_; clear S; intro a S)); refine wl_nil ?_; refine xtn ?_
      refine c_cond S (fun h4 => ?_) (fun h4 => ?_)
      · refine c_skip ?_; refine xtn ?_; refine c_seq ?_; refine c_block ?_
        have hkl : k < xs.length := by simpa using h4
        have hK1 : KLt k xs.length := ⟨hkl⟩
        have hK2 : KLt k ys.length := ⟨by omega⟩
        rw [nth_drop hkl, nth_drop (show k < ys.length by omega), List.map_cons, List.map_cons, sameLF] at hrel
        refine c_seq ?_
        refine c_drawD [(0, true), (1, true), (2, true), (3, true), (4, true), (5, true), (6, true), (7, true), (8, false), (9, true)] [] S ?_; clear S; intro w S
        (iterate 8 (refine dq S ?_; clear S; intro a S)); refine dl ?_; refine sc S ?_; clear S; intro a w S; refine de S ?_; refine dq S ?_; clear S; intro a S; refine dn ?_; refine xtn ?_
        refine c_cond S (fun h6 => ?_) (fun h6 => ?_)
        · refine c_seq ?_; refine c_region ?_; refine sq S ?_; clear S; intro a S; refine wl_nil ?_; refine xtn ?_; refine c_ret ?_; refine xbr ?_; (iterate 2 (refine xtr ?_)); refine xbr ?_; refine xtr ?_
          have h9 : sameF (nthL xs k).t (nthL ys k).t = false := by simpa using h6
          refine end1 S (fun _ => ?_)
          rw [← hrel, h9]; rfl
        · refine c_skip ?_; refine xbn ?_; refine xtn ?_; refine c_region ?_; (iterate 3 (refine sq S ?_; clear S; intro a S)); refine wl_nil ?_; refine xtn ?_
          have h9 : sameF (nthL xs k).t (nthL ys k).t = true := by simpa using h6
          rw [h9, Bool.true_and] at hrel
          rw [w64 ((k : Int) + 1) (by omega) (by omega)] at S
          exact ⟨k + 1, S.uu, ⟨hkl, hrel⟩, S.sub _ _, by omega⟩
      · refine c_exit ?_; (iterate 2 (refine xte ?_)); refine xbe ?_; refine xtn ?_; refine c_seq ?_; refine c_region ?_; refine sq S ?_; clear S; intro a S; refine wl_nil ?_; refine xtn ?_; refine c_ret ?_
        have h9 : xs.length ≤ k := by simpa using h4
        rw [List.drop_of_length_le h9, List.drop_of_length_le (by omega)] at hrel
        refine end1 S (fun _ => ?_)
        rw [← hrel]; rfl
def smallT : Nat → Term → Term
  | 0, .mk k u n s _ => .mk k u n (s.take 65) []
  | d + 1, .mk k u n s ks => .mk k u n (s.take 65) ((ks.take 3).map (smallT d))
def smallK (d : Nat) (ks : List Term) : List Term := match d with | 0 => [] | d + 1 => (ks.take 3).map (smallT d)
theorem smallT_eq (d : Nat) (t : LTerm) : smallT d t.t = .mk t.kind t.user t.num (t.text.take 65) (smallK d (t.kids.map LTerm.t)) := by
  rw [t.t_eq]; cases d <;> rfl
theorem smallK_len (d : Nat) (ks : List Term) : (smallK d ks).length ≤ 3 := by
  cases d
  · simp [smallK]
  · simp only [smallK, List.length_map, List.length_take]; omega
theorem smallK_more {d : Nat} {ks : List LTerm} {k : Nat} (h : k < ks.length) (hk : k < 3) : smallK (d + 1) ((ks.take (k + 1)).map LTerm.t) = smallK (d + 1) ((ks.take k).map LTerm.t) ++ [smallT d (nthL ks k).t] := by
  simp only [smallK]
  have e1 : ((ks.take (k + 1)).map LTerm.t).take 3 = (ks.take (k + 1)).map LTerm.t := List.take_of_length_le (by simp; omega)
  have e2 : ((ks.take k).map LTerm.t).take 3 = (ks.take k).map LTerm.t := List.take_of_length_le (by simp; omega)
  rw [e1, e2, take_map_succ ks k h, List.map_append]; rfl
theorem smallK_same {d : Nat} {ks : List LTerm} {k : Nat} (h : k < ks.length) (hk : ¬ (k < 3 ∧ 0 < d)) : smallK d ((ks.take (k + 1)).map LTerm.t) = smallK d ((ks.take k).map LTerm.t) := by
  cases d with
  | zero => rfl
  | succ d =>
    simp only [smallK]
    rw [take_map_succ ks k h, List.take_append_of_le_length (by simp; omega)]
theorem small_c (d : Nat) : ∀ (t : LTerm) (M : Nat → Prop) (w0 : World), d ≤ 30 → (∀ k, M k → k < w0.heap.size) → Stable M w0 (LtF t) → Ret Try.prog 23 [vL t, .int .i64 (d : Int)] w0 (fun _ => False) fun v w' => IsT M w' v (smallT d t.t) := by
  induction d using Nat.strongRecOn with
  | _ d ih =>
  intro t M w0 hd hM hf
  have hlen := LTerm.len_le hf
  refine enter Try.func23 rfl rfl (Wd.beginM (M := M) (fs := [LtF t]) hM (by simpa using hf)) (fun a S => ?_)
  simp only [Try.ntmps23, List.length_cons, List.length_nil, Nat.reduceAdd, Nat.reduceSub, List.replicate_succ, List.replicate_zero, List.cons_append, List.nil_append] at S
  refine c_seq ?_; refine c_region ?_
  refine sa S ?_; clear S; intro b2 a w S
  refine sa S ?_; clear S; intro b4 a w S
  refine wl_nil ?_; refine xtn ?_; refine c_seq ?_; refine c_region ?_; (iterate 7 (refine sq S ?_; clear S; intro a S))
  rw [show (t.text.take (min t.text.length 65)).drop 0 = t.text.take 65 from by rw [List.drop_zero, List.take_eq_take_iff]; omega] at S
  refine sq S ?_; clear S; intro a S; refine sw S ?_; clear S; intro a w S; refine wl_nil ?_; refine xtn ?_; refine c_seq ?_; refine c_region ?_; refine sq S ?_; clear S; intro a S; refine wl_nil ?_; refine xtn ?_; (iterate 2 (refine c_seq ?_)); refine c_region ?_; (iterate 4 (refine sq S ?_; clear S; intro a S)); refine wl_nil ?_; refine xtn ?_; refine c_block ?_
  replace S := S.addNil 37 5
  refine c_fore4 S (fun (k : Nat) (os : List LTerm) (p' : Option Addr) (c' : Nat) uu => [(5, .slice p' os.length c'), (0, uu 6), (0, uu 7), (11, .int .i64 (k : Nat)), (0, uu 20), (0, uu 21), (0, uu 22), (0, uu 23), (0, uu 24), (0, uu 25), (0, uu 26), (0, uu 27), (0, uu 28), (0, uu 29), (0, uu 30), (0, uu 31), (0, uu 32), (0, uu 33), (0, uu 34), (0, uu 35), (0, uu 36), (0, uu 37)]) (fun (k : Nat) (os : List LTerm) (p' : Option Addr) (c' : Nat) => [Wk.row 37 5 p' os.length c' (encL os), Wk.box b4 37 zeroL.cells, Wk.box b2 37 [.int .i64 t.kind, .int .i64 t.user, .int .i64 t.num, str (t.text.take 65), .slice t.p t.kids.length t.cap], ext M]) (fun (k : Nat) (os : List LTerm) (p' : Option Addr) (c' : Nat) => [AllL os, LtF t]) (fun (k : Nat) (os : List LTerm) (p' : Option Addr) (c' : Nat) => k ≤ t.kids.length ∧ os.map LTerm.t = smallK d ((t.kids.take k).map LTerm.t)) (fun (k : Nat) (os : List LTerm) (p' : Option Addr) (c' : Nat) => t.kids.length - k) (0) ([]) (none) (0) ?_ S.uu ?_ ?_
  · refine ⟨Nat.zero_le _, ?_⟩
    cases d <;> rfl
  · exact S.add (Φ := AllL []) (fun _ _ x hx => by cases hx)
  · clear S; rintro k os p' c' uu a w ⟨hk, hrel⟩ S
    refine c_seq ?_; refine c_region ?_; refine sq S ?_; clear S; intro a S; refine wl_nil ?_; refine xtn ?_; refine c_seq ?_
    refine c_cond S (fun h4 => ?_) (fun h4 => ?_)
    · refine c_skip ?_; refine xtn ?_; refine c_seq ?_; refine c_block ?_; refine c_seq ?_
      have hkl : k < t.kids.length := by simpa using h4
      have hK : KLt k t.kids.length := ⟨hkl⟩
      have hol : os.length ≤ 3 := by have := congrArg List.length hrel; rw [List.length_map] at this; have h2 := smallK_len d ((t.kids.take k).map LTerm.t); omega
      refine c_region ?_; (iterate 3 (refine sq S ?_; clear S; intro a S))
      refine sa S ?_; clear S; intro b7 a w S
      refine sq S ?_; clear S; intro a S; refine sw S ?_; clear S; intro a w S; refine wl_nil ?_; refine xtn ?_; refine c_seq ?_; refine c_region ?_; (iterate 3 (refine sq S ?_; clear S; intro a S)); (iterate 2 (refine gQ S ?_; clear S; intro a S)); refine sq S ?_; clear S; intro a S; refine wl_nil ?_; refine xtn ?_
      refine c_cond S (fun h6 => ?_) (fun h6 => ?_)
      · have h6' : k < 3 ∧ 0 < d := by simp at h6; omega
        obtain ⟨d', rfl⟩ : ∃ d', d = d' + 1 := ⟨d - 1, by omega⟩
        refine c_region ?_; (iterate 4 (refine sq S ?_; clear S; intro a S))
        rw [show IntKind.i64.wrap ((((d' + 1 : Nat) : Int)) - 1) = (d' : Int) from by rw [w64 _ (by omega) (by omega)]; omega] at S
        refine sr S (ih d' (by omega) (nthL t.kids k) _ w (by omega) (foots_lt S) (S.t (nthL t.kids k))) ?_; clear S; rintro _ a w ⟨r, rfl, hr, hrf⟩ S
        replace S := S.add hrf
        refine sn S ?_; clear S; intro b35 a w S
        refine sap S (by simp [maxLen]; omega) (by omega) ?_; clear S; rintro p7 c7 a w - S
        rw [show encL os ++ r.cells = encL (os ++ [r]) from by rw [encL_append os [r], encT_cells], show os.length + 1 = (os ++ [r]).length from by simp] at S
        refine sq S ?_; clear S; intro a S; refine wl_nil ?_; refine xbn ?_; refine xtn ?_; refine c_region ?_; (iterate 2 (refine sq S ?_; clear S; intro a S)); refine wl_nil ?_; refine xtn ?_
        rw [w64 ((k : Int) + 1) (by omega) (by omega)] at S
        have h1 : Stable _ _ (AllL os) := S.wd.facts (AllL os) (by simp)
        have h2 := S.t r
        replace S := S.add (Φ := AllL (os ++ [r])) (fun w' hw' x hx => by
          rcases List.mem_append.1 hx with h | h
          · exact h1 w' hw' x h
          · rw [List.mem_singleton.1 h]; exact h2 w' hw')
        exact ⟨k + 1, os ++ [r], p7, c7, S.uu, ⟨hkl, by rw [smallK_more hkl h6'.1, List.map_append, hrel, List.map_singleton, hr]⟩, S.sub _ _, by omega⟩
      · refine c_skip ?_; refine xbn ?_; refine xtn ?_; refine c_region ?_; (iterate 2 (refine sq S ?_; clear S; intro a S)); refine wl_nil ?_; refine xtn ?_
        have h6' : ¬ (k < 3 ∧ 0 < d) := fun h => by simp [h] at h6; omega
        rw [w64 ((k : Int) + 1) (by omega) (by omega)] at S
        exact ⟨k + 1, os, p', c', S.uu, ⟨hkl, by rw [smallK_same hkl h6']; exact hrel⟩, S.sub _ _, by omega⟩
    · refine c_exit ?_; (iterate 2 (refine xte ?_)); refine xbe ?_; refine xtn ?_; refine c_seq ?_; refine c_region ?_; (iterate 2 (refine sq S ?_; clear S; intro a S)); refine sw S ?_; clear S; intro a w S; refine wl_nil ?_; refine xtn ?_; refine c_seq ?_; refine c_region ?_; refine sq S ?_; clear S; intro a S; refine sw S ?_; clear S; intro a w S; refine wl_nil ?_; refine xtn ?_; refine c_ret ?_
      have hrow := S.row p' os.length
      have hnew := S.rowNew p' os.length
      have hall := S.laterFact (Φ := AllL os) (by simp)
      rw [List.take_of_length_le (by simp at h4; omega)] at hrel
      refine end1 S (fun _ => ?_)
      refine ⟨.mk t.kind t.user t.num (t.text.take 65) p' c' os, rfl, ?_, fun w' hw' => ?_⟩
      · rw [smallT_eq, ← hrel]; exact LTerm.t_eq _
      · have hls := ls_of_own hrow (fun x hx => AllL.get hall hx) (fun ad h hm => (hnew ad h).elim id (fun h2 => by have := hM _ hm; omega))
        exact ⟨own_le hrow, own_cap hrow, hls w' hw'⟩
theorem terms_c (xs : List LTerm) (n : Nat) (p : Option Addr) (c : Nat) (M : Nat → Prop) (w0 : World) (hn : n ≤ 1000) (hM : ∀ k, M k → k < w0.heap.size) (hl : xs.length ≤ 9223372036854775807) (hf : Stable M w0 (LsF p 0 xs)) :
    Ret Try.prog 7 [.slice p xs.length c, .int .i64 (n : Int)] w0 (fun _ => False) fun v w' => IsLs M w' v (((xs.take n).map LTerm.t).map (smallT 6)) := by
  refine enter Try.func7 rfl rfl (Wd.beginM (M := M) (fs := [LsF p 0 xs]) hM (by simpa using hf)) (fun a S => ?_)
  simp only [Try.ntmps7, List.length_cons, List.length_nil, Nat.reduceAdd, Nat.reduceSub, List.replicate_succ, List.replicate_zero, List.cons_append, List.nil_append] at S
  refine c_seq ?_; refine c_region ?_; refine sq S ?_; clear S; intro a S; refine wl_nil ?_; refine xtn ?_; refine c_seq ?_; refine c_region ?_; refine sq S ?_; clear S; intro a S; refine wl_nil ?_; refine xtn ?_; (iterate 2 (refine c_seq ?_)); refine c_region ?_; (iterate 3 (refine sq S ?_; clear S; intro a S)); refine wl_nil ?_; refine xtn ?_; refine c_block ?_
  replace S := S.addNil 37 5
  refine c_fore4 S (fun (k : Nat) (os : List LTerm) (p' : Option Addr) (c' : Nat) uu => [(5, .slice p' os.length c'), (0, uu 6), (0, uu 7), (2, .int .i64 (k : Nat)), (0, uu 11), (0, uu 12), (0, uu 13), (0, uu 14), (0, uu 15), (0, uu 16), (0, uu 17), (0, uu 18), (0, uu 19), (0, uu 20), (0, uu 21), (0, uu 22), (0, uu 23)]) (fun (k : Nat) (os : List LTerm) (p' : Option Addr) (c' : Nat) => [Wk.row 37 5 p' os.length c' (encL os), ext M]) (fun (k : Nat) (os : List LTerm) (p' : Option Addr) (c' : Nat) => [AllL os, LsF p 0 xs]) (fun (k : Nat) (os : List LTerm) (p' : Option Addr) (c' : Nat) => k ≤ xs.length ∧ k ≤ n ∧ os.map LTerm.t = ((xs.take k).map LTerm.t).map (smallT 6)) (fun (k : Nat) (os : List LTerm) (p' : Option Addr) (c' : Nat) => xs.length - k) (0) ([]) (none) (0) ?_ S.uu ?_ ?_
  · exact ⟨Nat.zero_le _, Nat.zero_le _, rfl⟩
  · exact S.add (Φ := AllL []) (fun _ _ x hx => by cases hx)
  · clear S; rintro k os p' c' uu a w ⟨hk, hkn, hrel⟩ S
    refine c_seq ?_; refine c_region ?_; refine sq S ?_; clear S; intro a S; refine wl_nil ?_; refine xtn ?_; refine c_seq ?_
    refine c_cond S (fun h3 => ?_) (fun h3 => ?_)
    · refine c_skip ?_; refine xtn ?_; refine c_seq ?_; refine c_block ?_; refine c_seq ?_
      have hkl : k < xs.length := by simpa using h3
      have hK : KLt k xs.length := ⟨hkl⟩
      have hol : os.length = k := by have := congrArg List.length hrel; simp at this; omega
      refine c_region ?_; (iterate 3 (refine sq S ?_; clear S; intro a S))
      refine sa S ?_; clear S; intro b7 a w S
      refine sq S ?_; clear S; intro a S; refine sw S ?_; clear S; intro a w S; refine wl_nil ?_; refine xtn ?_; (iterate 2 (refine c_seq ?_)); refine c_region ?_; (iterate 3 (refine sq S ?_; clear S; intro a S)); refine wl_nil ?_; refine xtn ?_
      refine c_cond S (fun h5 => ?_) (fun h5 => ?_)
      · refine c_exit ?_; refine xte ?_; refine xbx ?_; (iterate 2 (refine xte ?_)); refine xbe ?_; refine xtn ?_; refine c_seq ?_; refine c_region ?_; (iterate 2 (refine sq S ?_; clear S; intro a S)); refine wl_nil ?_; refine xtn ?_; refine c_ret ?_
        have hrow := S.row p' os.length
        have hnew := S.rowNew p' os.length
        have hall := S.laterFact (Φ := AllL os) (by simp)
        have hkn2 : k = n := by simpa [Int.ofNat_inj] using h5
        refine end1 S (fun _ => ?_)
        exact ⟨p', c', os, rfl, by rw [← hkn2]; exact hrel, own_le hrow, own_cap hrow, ls_of_own hrow (fun x hx => AllL.get hall hx) (fun ad h hm => (hnew ad h).elim id (fun h2 => by have := hM _ hm; omega))⟩
      · refine c_skip ?_; refine xtn ?_; refine c_region ?_; (iterate 2 (refine sq S ?_; clear S; intro a S))
        refine sr S (small_c 6 (nthL xs k) _ w (by omega) (foots_lt S) (S.t (nthL xs k))) ?_; clear S; rintro _ a w ⟨r, rfl, hr, hrf⟩ S
        replace S := S.add hrf
        refine sn S ?_; clear S; intro b21 a w S
        refine sap S (by simp [maxLen]; omega) (by omega) ?_; clear S; rintro p7 c7 a w - S
        rw [show encL os ++ r.cells = encL (os ++ [r]) from by rw [encL_append os [r], encT_cells], show os.length + 1 = (os ++ [r]).length from by simp] at S
        refine sq S ?_; clear S; intro a S; refine wl_nil ?_; refine xbn ?_; refine xtn ?_; refine c_region ?_; (iterate 2 (refine sq S ?_; clear S; intro a S)); refine wl_nil ?_; refine xtn ?_
        have hkn2 : k < n := by
          have : k ≠ n := fun h => by rw [h] at h5; simp at h5
          omega
        rw [w64 ((k : Int) + 1) (by omega) (by omega)] at S
        have h1 : Stable _ _ (AllL os) := S.wd.facts (AllL os) (by simp)
        have h2 := S.t r
        replace S := S.add (Φ := AllL (os ++ [r])) (fun w' hw' x hx => by
          rcases List.mem_append.1 hx with h | h
          · exact h1 w' hw' x h
          · rw [List.mem_singleton.1 h]; exact h2 w' hw')
        exact ⟨k + 1, os ++ [r], p7, c7, S.uu, ⟨hkl, hkn2, by rw [take_map_succ xs k hkl, List.map_append, List.map_append, hrel, List.map_singleton, List.map_singleton, hr]⟩, S.sub _ _, by omega⟩
    · refine c_exit ?_; (iterate 2 (refine xte ?_)); refine xbe ?_; refine xtn ?_; refine c_seq ?_; refine c_region ?_; (iterate 2 (refine sq S ?_; clear S; intro a S)); refine wl_nil ?_; refine xtn ?_; refine c_ret ?_
      have hrow := S.row p' os.length
      have hnew := S.rowNew p' os.length
      have hall := S.laterFact (Φ := AllL os) (by simp)
      have hkn2 : xs.take k = xs.take n := by rw [List.take_of_length_le (by simp at h3; omega), List.take_of_length_le (by simp at h3; omega)]
      refine end1 S (fun _ => ?_)
      exact ⟨p', c', os, rfl, by rw [← hkn2]; exact hrel, own_le hrow, own_cap hrow, ls_of_own hrow (fun x hx => AllL.get hall hx) (fun ad h hm => (hnew ad h).elim id (fun h2 => by have := hM _ hm; omega))⟩
def IsA (M : Nat → Prop) (w : World) (v : Value) (us : List Int) (Ts : List Term) : Prop := ∃ (pu : Option Addr) (cu : Nat) (pk : Option Addr) (ck : Nat) (ks : List LTerm), v = vA pu us.length cu pk ks.length ck ∧ ks.map LTerm.t = Ts ∧ us.length ≤ cu ∧ ks.length ≤ ck ∧ cu ≤ maxLen ∧ ck ≤ maxLen ∧ Stable M w (SlF pu (encL us)) ∧ Stable M w (LsF pk 0 ks)
def shortN (n : Nat) : Nat := if 250 < n then 501 else 12
def shortK (K : List Term) : List Term := (K.take (shortN K.length)).map (smallT 6)
theorem short_c (us : List Int) (ks : List LTerm) (pu pk : Option Addr) (cu ck : Nat) (M : Nat → Prop) (w0 : World) (hM : ∀ k, M k → k < w0.heap.size) (hul : us.length ≤ cu) (hkl : ks.length ≤ 9223372036854775807)
    (hu : Stable M w0 (SlF pu (encL us))) (hk : Stable M w0 (LsF pk 0 ks)) :
    Ret Try.prog 5 [vA pu us.length cu pk ks.length ck] w0 (fun _ => False) fun v w' => IsA M w' v (us.take 8) (shortK (ks.map LTerm.t)) := by
  have hle : LeC (min us.length 8) cu := ⟨by omega⟩
  refine enter Try.func5 rfl rfl (Wd.beginM (M := M) (fs := [SlF pu (encL us), LsF pk 0 ks]) hM (by simp; exact ⟨hu, hk⟩)) (fun a S => ?_)
  simp only [Try.ntmps5, List.length_cons, List.length_nil, Nat.reduceAdd, Nat.reduceSub, List.replicate_succ, List.replicate_zero, List.cons_append, List.nil_append] at S
  refine c_seq ?_; refine c_region ?_
  refine sa S ?_; clear S; intro b1 a w S
  refine sa S ?_; clear S; intro b2 a w S
  refine wl_nil ?_; refine xtn ?_; refine c_seq ?_; refine c_region ?_; refine sq S ?_; clear S; intro a S; refine wl_nil ?_; refine xtn ?_
  refine c_mrgb1 S (fun (n : Nat) uu => [(3, .int .i64 (n : Nat)), (0, uu 4), (0, uu 5), (0, uu 6), (0, uu 7)]) (fun (n : Nat) => n = shortN ks.length) ?_ ?_
  · refine c_seq ?_; refine c_region ?_; (iterate 4 (refine sq S ?_; clear S; intro a S)); refine wl_nil ?_; refine xtn ?_
    refine c_cond S (fun h2 => ?_) (fun h2 => ?_)
    · refine c_region ?_; refine sq S ?_; clear S; intro a S; refine wl_nil ?_; refine xtn ?_
      exact ⟨501, S.uu, by have : 250 < ks.length := (by simp at h2; omega); simp [shortN, this], S⟩
    · refine c_skip ?_; refine xtn ?_
      exact ⟨12, S.uu, by have : ¬ 250 < ks.length := (by simp at h2; omega); simp [shortN, this], S⟩
  · clear S; rintro n uu a w hn S
    refine c_seq ?_
    refine c_drawE [(1, true), (2, true), (3, true), (4, true), (5, true), (6, true), (7, true), (9, true), (10, true), (11, true), (0, false), (8, false), (12, false), (13, true), (14, false)] [Wk.box b1 25 [.slice pu us.length cu, .slice pk ks.length ck], ext M] S ?_; clear S; intro w S
    (iterate 10 (refine dq S ?_; clear S; intro a S)); refine dl ?_
    refine sn S ?_; clear S; intro b8 a w S
    refine de S ?_; refine dl ?_
    replace S := S.boxRow b8 1 0 rfl (by omega)
    have hfu : Stable _ _ (SlF pu (encL us)) := S.wd.facts (SlF pu (encL us)) (by simp)
    replace S := S.add (hfu.imp fun _ h => SlF.take 8 h)
    have hN : LenN (us.take 8) (min us.length 8) := ⟨by simp; omega⟩
    refine sap S (by simp [maxLen]; omega) (by omega) ?_; clear S; rintro p8 c8 a w - S
    rw [List.nil_append, Nat.zero_add, show min us.length 8 = (us.take 8).length from by simp; omega] at S
    refine de S ?_; refine dl ?_
    have hn5 : n ≤ 1000 := by rw [hn, shortN]; split <;> omega
    refine sr S (terms_c ks n pk ck _ w hn5 (foots_lt S) hkl (S.wd.facts (LsF pk 0 ks) (by simp))) ?_; clear S; rintro _ a w ⟨p12, c12, ks', rfl, hks', h1, h2, hf⟩ S
    replace S := S.add hf
    rw [show ((ks.take n).map LTerm.t).map (smallT 6) = shortK (ks.map LTerm.t) from by rw [shortK, List.map_take, List.length_map, hn]] at hks'
    refine de S ?_; refine dq S ?_; clear S; intro a S; refine dl ?_; refine sw S ?_; clear S; intro a w S; refine de S ?_; refine dn ?_; refine xtn ?_; refine c_ret ?_
    have hrow := S.row p8 (us.take 8).length
    have hnew := S.rowNew p8 (us.take 8).length
    have hl := S.laterFact (Φ := LsF p12 0 ks') (by simp)
    refine end1 S (fun _ => ?_)
    exact ⟨p8, c8, p12, c12, ks', rfl, hks', own_le hrow, h1, own_cap hrow, h2, SlF.stable (own_sl hrow) (fun ad h hm => (hnew ad h).elim id (fun h2 => by have := hM _ hm; omega)), hl⟩
theorem sl_gl {w : World} {p : Option Addr} {xs : List Int} (h : SlF p (encL xs) w) : GlF p xs w := ⟨h, fun _ _ => trivial⟩
def sameA (us vs : List Int) (K L : List Term) : Bool := decide (us = vs) && sameLF K L
theorem r22same_c (us vs : List Int) (ks ls : List LTerm) (pu pk qu qk : Option Addr) (cu ck du dk : Nat) (w0 : World) (hul : us.length ≤ 1000000) (hkl : ks.length ≤ 1000000) (hu : Stable (fun _ => False) w0 (SlF pu (encL us))) (hk : Stable (fun _ => False) w0 (LsF pk 0 ks)) (hv : Stable (fun _ => False) w0 (SlF qu (encL vs))) (hl : Stable (fun _ => False) w0 (LsF qk 0 ls)) :
    Ret Try.prog 16 [vA pu us.length cu pk ks.length ck, vA qu vs.length du qk ls.length dk] w0 (fun _ => False) fun v _ => v = .bool (sameA us vs (ks.map LTerm.t) (ls.map LTerm.t)) := by
  refine enter Try.func16 rfl rfl (Wd.begin (fs := [GlF pu us, LsF pk 0 ks, GlF qu vs, LsF qk 0 ls]) (by simp; exact ⟨hu.imp fun _ => sl_gl, hk, hv.imp fun _ => sl_gl, hl⟩)) (fun a S => ?_)
  simp only [Try.ntmps16, List.length_cons, List.length_nil, Nat.reduceAdd, Nat.reduceSub, List.replicate_succ, List.replicate_zero, List.cons_append, List.nil_append] at S
  refine c_seq ?_; refine c_region ?_
  refine sa S ?_; clear S; intro b2 a w S
  refine sa S ?_; clear S; intro b3 a w S
  refine sq S ?_; clear S; intro a S; refine wl_nil ?_; refine xtn ?_; (iterate 2 (refine c_seq ?_)); refine c_region ?_; (iterate 7 (refine sq S ?_; clear S; intro a S)); refine wl_nil ?_; refine xtn ?_
  refine c_cond S (fun h1 => ?_) (fun h1 => ?_)
  · refine c_seq ?_; refine c_region ?_; refine sq S ?_; clear S; intro a S; refine wl_nil ?_; refine xtn ?_; refine c_ret ?_; refine xtr ?_
    have hne : us ≠ vs := fun h => by rw [h] at h1; simp at h1
    refine end1 S (fun _ => ?_)
    rw [sameA, decide_eq_false hne]; rfl
  · refine c_skip ?_; refine xtn ?_; (iterate 2 (refine c_seq ?_)); refine c_region ?_; (iterate 4 (refine sq S ?_; clear S; intro a S)); refine wl_nil ?_; refine xtn ?_; refine c_block ?_
    have hle : us.length = vs.length := by simp at h1; omega
    refine c_forb1 S (fun (k : Nat) uu => [(4, uu 4), (0, uu 5), (10, .int .i64 (k : Nat)), (0, uu 17), (0, uu 18), (0, uu 19), (0, uu 20), (0, uu 21), (0, uu 22), (0, uu 23), (0, uu 24), (0, uu 25), (0, uu 26), (0, uu 27), (0, uu 28), (0, uu 29), (0, uu 30)]) (fun (k : Nat) => k ≤ us.length ∧ us.take k = vs.take k) (fun (k : Nat) => us.length - k) (0) ?_ S.uu ?_ ?_
    · exact ⟨Nat.zero_le _, rfl⟩
    · first | exact S | exact S.sub _ _
    · clear S; rintro k uu a w ⟨hk2, hrel⟩ S
      refine c_seq ?_; refine c_region ?_; refine sq S ?_; clear S; intro a S; refine wl_nil ?_; refine xtn ?_; refine c_seq ?_
      refine c_cond S (fun h4 => ?_) (fun h4 => ?_)
      · refine c_skip ?_; refine xtn ?_; refine c_seq ?_; refine c_block ?_; refine c_seq ?_
        have hkl2 : k < us.length := by simpa using h4
        have hK1 : KLt k us.length := ⟨hkl2⟩
        have hK2 : KLt k vs.length := ⟨by omega⟩
        refine c_region ?_; (iterate 2 (refine sq S ?_; clear S; intro a S)); refine wl_nil ?_; refine xtn ?_; refine c_seq ?_
        refine c_drawD [(0, true), (1, true), (2, true), (3, true), (4, true), (5, true), (6, true), (7, true), (8, true), (9, true), (10, true)] [] S ?_; clear S; intro w S
        (iterate 11 (refine dq S ?_; clear S; intro a S)); refine dn ?_; refine xtn ?_
        refine c_cond S (fun h6 => ?_) (fun h6 => ?_)
        · refine c_seq ?_; refine c_region ?_; refine sq S ?_; clear S; intro a S; refine wl_nil ?_; refine xtn ?_; refine c_ret ?_; refine xbr ?_; (iterate 2 (refine xtr ?_)); refine xbr ?_; refine xtr ?_
          have h9 : nthG us k ≠ nthG vs k := by simpa using h6
          have hne : us ≠ vs := fun h => h9 (by rw [h])
          refine end1 S (fun _ => ?_)
          rw [sameA, decide_eq_false hne]; rfl
        · refine c_skip ?_; refine xbn ?_; refine xtn ?_; refine c_region ?_; (iterate 2 (refine sq S ?_; clear S; intro a S)); refine wl_nil ?_; refine xtn ?_
          have h9 : nthG us k = nthG vs k := by simpa using h6
          rw [w64 ((k : Int) + 1) (by omega) (by omega)] at S
          exact ⟨k + 1, S.uu, ⟨hkl2, by rw [nthG_take hkl2, nthG_take (show k < vs.length by omega), hrel, h9]⟩, S.sub _ _, by omega⟩
      · refine c_exit ?_; (iterate 2 (refine xte ?_)); refine xbe ?_; refine xtn ?_; refine c_seq ?_; refine c_region ?_; (iterate 4 (refine sq S ?_; clear S; intro a S))
        refine sr S (rsameall_c pk qk ck dk ks ls w (by omega) (S.mem.fact0 (LsF pk 0 ks)) (S.mem.fact0 (LsF qk 0 ls))) ?_; clear S; rintro _ a w rfl S
        refine sq S ?_; clear S; intro a S; refine wl_nil ?_; refine xtn ?_; refine c_ret ?_
        have h9 : us.length ≤ k := by simpa using h4
        rw [List.take_of_length_le h9, List.take_of_length_le (by omega)] at hrel
        refine end1 S (fun _ => ?_)
        rw [sameA, decide_eq_true hrel]; rfl
def AllO (B : Nat) (L : List LTerm) : World → Prop := fun w => ∀ x ∈ L, OwF B x w
theorem AllO.snoc {M : Nat → Prop} {w : World} {B : Nat} {L : List LTerm} {r : LTerm} (h : Stable M w (AllO B L)) (hr : Stable M w (OwF B r)) : Stable M w (AllO B (L ++ [r])) := fun w' hw x hx => by
  rcases List.mem_append.1 hx with hx | hx
  · exact h w' hw x hx
  · rw [List.mem_singleton.1 hx]; exact hr w' hw
theorem OwF.mono {B B' : Nat} (h : B ≤ B') {x : LTerm} {w : World} (hx : OwF B' x w) : OwF B x w := ⟨hx.1, hx.2.1, fun ad ha => Nat.le_trans h (hx.2.2 ad ha)⟩
abbrev outI (b8 : Nat) (p : Option Addr) (c : Nat) (os : List LTerm) : Wk.Item := both (Wk.box b8 23 [.slice p os.length c]) (Wk.row 37 5 p os.length c (encL os))
theorem leaks1_c (B b2 b8 : Nat) (ks os : List LTerm) (t : LTerm) (pu pk p : Option Addr) (nu cu ck c : Nat) (Mr : Nat → Prop) (w0 : World) (hB : B ≤ w0.heap.size) (hol : os.length ≤ 1000) (hkl : ks.length ≤ 500) (hG : ∀ t ∈ ks.map LTerm.t, Good t) (hgt : Good t.t)
    (hout : (outI b8 p c os).holds w0) (hMr : ∀ k, Mr k → k < w0.heap.size ∧ ¬ (outI b8 p c os).foot k)
    (hA : Stable (fun k => (outI b8 p c os).foot k ∨ Mr k) w0 (BoxF b2 25 [.slice pu nu cu, .slice pk ks.length ck])) (hk : Stable (fun k => (outI b8 p c os).foot k ∨ Mr k) w0 (LsF pk 0 ks)) (ht : Stable (fun k => (outI b8 p c os).foot k ∨ Mr k) w0 (LtF t)) (ho : Stable (fun k => (outI b8 p c os).foot k ∨ Mr k) w0 (AllO B os)) :
    Ret Try.prog 26 [vL t, .pointer (some ⟨b2, 0, none⟩), .pointer (some ⟨b8, 0, none⟩)] w0 (outI b8 p c os).foot fun v w' => v = .tuple #[] ∧ ∃ (p' : Option Addr) (c' : Nat) (os' : List LTerm), os'.length ≤ os.length + 1 ∧ os'.map LTerm.t = os.map LTerm.t ++ (if derB (ks.map LTerm.t) t.t then [t.t] else []) ∧ (outI b8 p' c' os').holds w' ∧
      (∀ k, (outI b8 p' c' os').foot k → (outI b8 p c os).foot k ∨ w0.heap.size ≤ k) ∧ Stable (fun k => (outI b8 p' c' os').foot k ∨ Mr k) w' (AllO B os') := by
  have hz := can_der0 (K := ks.map LTerm.t) (t := t.t) (by simpa using hkl) hG hgt
  have hF : ∀ Φ ∈ [BoxF b2 25 [.slice pu nu cu, .slice pk ks.length ck], LsF pk 0 ks, LtF t, AllO B os], Stable (fun k => (outI b8 p c os).foot k ∨ Mr k) w0 Φ := by simp; exact ⟨hA, hk, ht, ho⟩
  refine enter Try.func26 rfl rfl (Wd.it2LentM (fs := [BoxF b2 25 [.slice pu nu cu, .slice pk ks.length ck], LsF pk 0 ks, LtF t, AllO B os]) hout rfl rfl hMr hF) (fun a S => ?_)
  simp only [Try.ntmps26, List.length_cons, List.length_nil, Nat.reduceAdd, Nat.reduceSub, List.replicate_succ, List.replicate_zero, List.cons_append, List.nil_append] at S
  refine c_seq ?_; refine c_region ?_
  refine sa S ?_; clear S; intro b3 a w S
  refine wl_nil ?_; refine xtn ?_; refine c_seq ?_; refine c_region ?_; (iterate 3 (refine sq S ?_; clear S; intro a S))
  refine sr S (can_cl ks t pk ck _ (S.mem.fact0 (LsF pk 0 ks)) (S.mem.t0 t)) ?_; clear S; rintro _ a w rfl S
  rw [hz.1, hz.2] at S
  (iterate 5 (refine sq S ?_; clear S; intro a S)); refine wl_nil ?_; refine xtn ?_; refine c_seq ?_; refine c_region ?_; (iterate 3 (refine sq S ?_; clear S; intro a S)); refine gQ S ?_; clear S; intro a S; refine sq S ?_; clear S; intro a S; refine wl_nil ?_; refine xtn ?_
  refine c_cond S (fun h2 => ?_) (fun h2 => ?_)
  · refine c_drwe3 (.q 1 (.b3 0 2 4 (.q 3 (.b2 2 4 (.l 4 (.l 5 (.b2 6 8 (.b2 7 8 (.l 8 (.e)) (.l 7 (.e))) (.l 6 (.l 7 (.e)))))) (.l 2 (.l 5 (.b2 6 8 (.b2 7 8 (.l 8 (.e)) (.l 7 (.e))) (.l 6 (.l 7 (.e)))))))) (.b2 0 4 (.q 3 (.l 4 (.l 5 (.b2 6 8 (.b2 7 8 (.l 8 (.e)) (.l 7 (.e))) (.l 6 (.l 7 (.e))))))) (.l 0 (.q 3 (.l 5 (.b2 6 8 (.b2 7 8 (.l 8 (.e)) (.l 7 (.e))) (.l 6 (.l 7 (.e)))))))) (.b2 0 2 (.q 3 (.l 2 (.l 5 (.b2 6 8 (.b2 7 8 (.l 8 (.e)) (.l 7 (.e))) (.l 6 (.l 7 (.e))))))) (.l 0 (.q 3 (.l 5 (.b2 6 8 (.b2 7 8 (.l 8 (.e)) (.l 7 (.e))) (.l 6 (.l 7 (.e)))))))))) S (fun (p' : Option Addr) (c' : Nat) (r : LTerm) uu => [(18, uu 18), (0, uu 19), (0, uu 20), (0, uu 21), (0, uu 22), (0, uu 23), (0, uu 24)]) [Wk.box b3 37 t.cells, ext Mr] (fun (p' : Option Addr) (c' : Nat) (r : LTerm) => [Wk.box b8 23 [.slice p' (os.length + 1) c'], Wk.row 37 5 p' (os.length + 1) c' (encL (os ++ [r])), ext Mr]) (fun (p' : Option Addr) (c' : Nat) (r : LTerm) => [AllO B (os ++ [r])]) (fun (p' : Option Addr) (c' : Nat) (r : LTerm) => r.t = t.t) ?_ ?_
    · intro w S
      refine tq S ?_; clear S; intro a S
      refine tb3 ?_ ?_ ?_
      · refine sq S ?_; clear S; intro a S; refine te S ?_; refine tq S ?_; clear S; intro a S
        refine tb2 ?_ ?_
        · have hsz := S.wd.agree.size
          refine sr S (copiedo_c t _ w (good_le hgt) (foots_lt S) (S.t t)) ?_; clear S; rintro _ a w ⟨r, rfl, hr, hrf⟩ S
          replace S := S.add (Φ := OwF B r) (hrf.imp fun _ h => h.mono (B := B) (Nat.le_trans hB hsz))
          refine te S ?_; refine tl ?_
          refine sn S ?_; clear S; intro b22 a w S
          refine te S ?_; refine tl ?_
          refine sap S (by simp [maxLen]; omega) (by omega) ?_; clear S; rintro p3 c3 a w - S
          refine te S ?_
          refine tb2 ?_ ?_
          · have hKL : KLt os.length (os.length + 1) := ⟨by omega⟩
            refine sq S ?_; clear S; intro a S; refine te S ?_
            refine tb2 ?_ ?_
            · refine sws S (os.length + 1) (by omega) (by omega) ?_; clear S; intro a w S
              refine te S ?_; refine tl ?_; refine sw S ?_; clear S; intro a w S; refine te S ?_; refine tn ?_
              have e := own_put (A := encL os) (Z := [.int .i64 0, .int .i64 0, .int .i64 0, .string ⟨#[]⟩, .slice none 0 0]) (vs := r.cells) _ _ (show (encL os).length = os.length * 5 from encL_len os) rfl rfl
              rw [e, ← encT_cells, ← encL_append] at S
              have h1 : Stable _ _ (AllO B os) := S.wd.facts (AllO B os) (by simp)
              have h2 : Stable _ _ (OwF B r) := S.wd.facts (OwF B r) (by simp)
              replace S := S.add (AllO.snoc h1 h2)
              exact ⟨p3, c3, r, S.uu, hr, S.sub _ _⟩
            · refine sw S ?_; clear S; intro a w S; refine te S ?_; refine tl ?_
              refine sws S (os.length + 1) (by omega) (by omega) ?_; clear S; intro a w S
              refine te S ?_; refine tn ?_
              have e := own_put (A := encL os) (Z := [.int .i64 0, .int .i64 0, .int .i64 0, .string ⟨#[]⟩, .slice none 0 0]) (vs := r.cells) _ _ (show (encL os).length = os.length * 5 from encL_len os) rfl rfl
              rw [e, ← encT_cells, ← encL_append] at S
              have h1 : Stable _ _ (AllO B os) := S.wd.facts (AllO B os) (by simp)
              have h2 : Stable _ _ (OwF B r) := S.wd.facts (OwF B r) (by simp)
              replace S := S.add (AllO.snoc h1 h2)
              exact ⟨p3, c3, r, S.uu, hr, S.sub _ _⟩
          · refine sw S ?_; clear S; intro a w S; refine te S ?_; refine tl ?_
            have hKL : KLt os.length (os.length + 1) := ⟨by omega⟩
            refine sq S ?_; clear S; intro a S; refine te S ?_; refine tl ?_
            refine sws S (os.length + 1) (by omega) (by omega) ?_; clear S; intro a w S
            refine te S ?_; refine tn ?_
            have e := own_put (A := encL os) (Z := [.int .i64 0, .int .i64 0, .int .i64 0, .string ⟨#[]⟩, .slice none 0 0]) (vs := r.cells) _ _ (show (encL os).length = os.length * 5 from encL_len os) rfl rfl
            rw [e, ← encT_cells, ← encL_append] at S
            have h1 : Stable _ _ (AllO B os) := S.wd.facts (AllO B os) (by simp)
            have h2 : Stable _ _ (OwF B r) := S.wd.facts (OwF B r) (by simp)
            replace S := S.add (AllO.snoc h1 h2)
            exact ⟨p3, c3, r, S.uu, hr, S.sub _ _⟩
        · refine sn S ?_; clear S; intro b22 a w S
          refine te S ?_; refine tl ?_
          have hsz := S.wd.agree.size
          refine sr S (copiedo_c t _ w (good_le hgt) (foots_lt S) (S.t t)) ?_; clear S; rintro _ a w ⟨r, rfl, hr, hrf⟩ S
          replace S := S.add (Φ := OwF B r) (hrf.imp fun _ h => h.mono (B := B) (Nat.le_trans hB hsz))
          refine te S ?_; refine tl ?_
          refine sap S (by simp [maxLen]; omega) (by omega) ?_; clear S; rintro p3 c3 a w - S
          refine te S ?_
          refine tb2 ?_ ?_
          · have hKL : KLt os.length (os.length + 1) := ⟨by omega⟩
            refine sq S ?_; clear S; intro a S; refine te S ?_
            refine tb2 ?_ ?_
            · refine sws S (os.length + 1) (by omega) (by omega) ?_; clear S; intro a w S
              refine te S ?_; refine tl ?_; refine sw S ?_; clear S; intro a w S; refine te S ?_; refine tn ?_
              have e := own_put (A := encL os) (Z := [.int .i64 0, .int .i64 0, .int .i64 0, .string ⟨#[]⟩, .slice none 0 0]) (vs := r.cells) _ _ (show (encL os).length = os.length * 5 from encL_len os) rfl rfl
              rw [e, ← encT_cells, ← encL_append] at S
              have h1 : Stable _ _ (AllO B os) := S.wd.facts (AllO B os) (by simp)
              have h2 : Stable _ _ (OwF B r) := S.wd.facts (OwF B r) (by simp)
              replace S := S.add (AllO.snoc h1 h2)
              exact ⟨p3, c3, r, S.uu, hr, S.sub _ _⟩
            · refine sw S ?_; clear S; intro a w S; refine te S ?_; refine tl ?_
              refine sws S (os.length + 1) (by omega) (by omega) ?_; clear S; intro a w S
              refine te S ?_; refine tn ?_
              have e := own_put (A := encL os) (Z := [.int .i64 0, .int .i64 0, .int .i64 0, .string ⟨#[]⟩, .slice none 0 0]) (vs := r.cells) _ _ (show (encL os).length = os.length * 5 from encL_len os) rfl rfl
              rw [e, ← encT_cells, ← encL_append] at S
              have h1 : Stable _ _ (AllO B os) := S.wd.facts (AllO B os) (by simp)
              have h2 : Stable _ _ (OwF B r) := S.wd.facts (OwF B r) (by simp)
              replace S := S.add (AllO.snoc h1 h2)
              exact ⟨p3, c3, r, S.uu, hr, S.sub _ _⟩
          · refine sw S ?_; clear S; intro a w S; refine te S ?_; refine tl ?_
            have hKL : KLt os.length (os.length + 1) := ⟨by omega⟩
            refine sq S ?_; clear S; intro a S; refine te S ?_; refine tl ?_
            refine sws S (os.length + 1) (by omega) (by omega) ?_; clear S; intro a w S
            refine te S ?_; refine tn ?_
            have e := own_put (A := encL os) (Z := [.int .i64 0, .int .i64 0, .int .i64 0, .string ⟨#[]⟩, .slice none 0 0]) (vs := r.cells) _ _ (show (encL os).length = os.length * 5 from encL_len os) rfl rfl
            rw [e, ← encT_cells, ← encL_append] at S
            have h1 : Stable _ _ (AllO B os) := S.wd.facts (AllO B os) (by simp)
            have h2 : Stable _ _ (OwF B r) := S.wd.facts (OwF B r) (by simp)
            replace S := S.add (AllO.snoc h1 h2)
            exact ⟨p3, c3, r, S.uu, hr, S.sub _ _⟩
      · have hsz := S.wd.agree.size
        refine sr S (copiedo_c t _ w (good_le hgt) (foots_lt S) (S.t t)) ?_; clear S; rintro _ a w ⟨r, rfl, hr, hrf⟩ S
        replace S := S.add (Φ := OwF B r) (hrf.imp fun _ h => h.mono (B := B) (Nat.le_trans hB hsz))
        refine te S ?_
        refine tb2 ?_ ?_
        · refine sq S ?_; clear S; intro a S; refine te S ?_; refine tq S ?_; clear S; intro a S; refine tl ?_
          refine sn S ?_; clear S; intro b22 a w S
          refine te S ?_; refine tl ?_
          refine sap S (by simp [maxLen]; omega) (by omega) ?_; clear S; rintro p3 c3 a w - S
          refine te S ?_
          refine tb2 ?_ ?_
          · have hKL : KLt os.length (os.length + 1) := ⟨by omega⟩
            refine sq S ?_; clear S; intro a S; refine te S ?_
            refine tb2 ?_ ?_
            · refine sws S (os.length + 1) (by omega) (by omega) ?_; clear S; intro a w S
              refine te S ?_; refine tl ?_; refine sw S ?_; clear S; intro a w S; refine te S ?_; refine tn ?_
              have e := own_put (A := encL os) (Z := [.int .i64 0, .int .i64 0, .int .i64 0, .string ⟨#[]⟩, .slice none 0 0]) (vs := r.cells) _ _ (show (encL os).length = os.length * 5 from encL_len os) rfl rfl
              rw [e, ← encT_cells, ← encL_append] at S
              have h1 : Stable _ _ (AllO B os) := S.wd.facts (AllO B os) (by simp)
              have h2 : Stable _ _ (OwF B r) := S.wd.facts (OwF B r) (by simp)
              replace S := S.add (AllO.snoc h1 h2)
              exact ⟨p3, c3, r, S.uu, hr, S.sub _ _⟩
            · refine sw S ?_; clear S; intro a w S; refine te S ?_; refine tl ?_
              refine sws S (os.length + 1) (by omega) (by omega) ?_; clear S; intro a w S
              refine te S ?_; refine tn ?_
              have e := own_put (A := encL os) (Z := [.int .i64 0, .int .i64 0, .int .i64 0, .string ⟨#[]⟩, .slice none 0 0]) (vs := r.cells) _ _ (show (encL os).length = os.length * 5 from encL_len os) rfl rfl
              rw [e, ← encT_cells, ← encL_append] at S
              have h1 : Stable _ _ (AllO B os) := S.wd.facts (AllO B os) (by simp)
              have h2 : Stable _ _ (OwF B r) := S.wd.facts (OwF B r) (by simp)
              replace S := S.add (AllO.snoc h1 h2)
              exact ⟨p3, c3, r, S.uu, hr, S.sub _ _⟩
          · refine sw S ?_; clear S; intro a w S; refine te S ?_; refine tl ?_
            have hKL : KLt os.length (os.length + 1) := ⟨by omega⟩
            refine sq S ?_; clear S; intro a S; refine te S ?_; refine tl ?_
            refine sws S (os.length + 1) (by omega) (by omega) ?_; clear S; intro a w S
            refine te S ?_; refine tn ?_
            have e := own_put (A := encL os) (Z := [.int .i64 0, .int .i64 0, .int .i64 0, .string ⟨#[]⟩, .slice none 0 0]) (vs := r.cells) _ _ (show (encL os).length = os.length * 5 from encL_len os) rfl rfl
            rw [e, ← encT_cells, ← encL_append] at S
            have h1 : Stable _ _ (AllO B os) := S.wd.facts (AllO B os) (by simp)
            have h2 : Stable _ _ (OwF B r) := S.wd.facts (OwF B r) (by simp)
            replace S := S.add (AllO.snoc h1 h2)
            exact ⟨p3, c3, r, S.uu, hr, S.sub _ _⟩
        · refine sn S ?_; clear S; intro b22 a w S
          refine te S ?_; refine tl ?_; refine sq S ?_; clear S; intro a S; refine te S ?_; refine tq S ?_; clear S; intro a S; refine tl ?_
          refine sap S (by simp [maxLen]; omega) (by omega) ?_; clear S; rintro p3 c3 a w - S
          refine te S ?_
          refine tb2 ?_ ?_
          · have hKL : KLt os.length (os.length + 1) := ⟨by omega⟩
            refine sq S ?_; clear S; intro a S; refine te S ?_
            refine tb2 ?_ ?_
            · refine sws S (os.length + 1) (by omega) (by omega) ?_; clear S; intro a w S
              refine te S ?_; refine tl ?_; refine sw S ?_; clear S; intro a w S; refine te S ?_; refine tn ?_
              have e := own_put (A := encL os) (Z := [.int .i64 0, .int .i64 0, .int .i64 0, .string ⟨#[]⟩, .slice none 0 0]) (vs := r.cells) _ _ (show (encL os).length = os.length * 5 from encL_len os) rfl rfl
              rw [e, ← encT_cells, ← encL_append] at S
              have h1 : Stable _ _ (AllO B os) := S.wd.facts (AllO B os) (by simp)
              have h2 : Stable _ _ (OwF B r) := S.wd.facts (OwF B r) (by simp)
              replace S := S.add (AllO.snoc h1 h2)
              exact ⟨p3, c3, r, S.uu, hr, S.sub _ _⟩
            · refine sw S ?_; clear S; intro a w S; refine te S ?_; refine tl ?_
              refine sws S (os.length + 1) (by omega) (by omega) ?_; clear S; intro a w S
              refine te S ?_; refine tn ?_
              have e := own_put (A := encL os) (Z := [.int .i64 0, .int .i64 0, .int .i64 0, .string ⟨#[]⟩, .slice none 0 0]) (vs := r.cells) _ _ (show (encL os).length = os.length * 5 from encL_len os) rfl rfl
              rw [e, ← encT_cells, ← encL_append] at S
              have h1 : Stable _ _ (AllO B os) := S.wd.facts (AllO B os) (by simp)
              have h2 : Stable _ _ (OwF B r) := S.wd.facts (OwF B r) (by simp)
              replace S := S.add (AllO.snoc h1 h2)
              exact ⟨p3, c3, r, S.uu, hr, S.sub _ _⟩
          · refine sw S ?_; clear S; intro a w S; refine te S ?_; refine tl ?_
            have hKL : KLt os.length (os.length + 1) := ⟨by omega⟩
            refine sq S ?_; clear S; intro a S; refine te S ?_; refine tl ?_
            refine sws S (os.length + 1) (by omega) (by omega) ?_; clear S; intro a w S
            refine te S ?_; refine tn ?_
            have e := own_put (A := encL os) (Z := [.int .i64 0, .int .i64 0, .int .i64 0, .string ⟨#[]⟩, .slice none 0 0]) (vs := r.cells) _ _ (show (encL os).length = os.length * 5 from encL_len os) rfl rfl
            rw [e, ← encT_cells, ← encL_append] at S
            have h1 : Stable _ _ (AllO B os) := S.wd.facts (AllO B os) (by simp)
            have h2 : Stable _ _ (OwF B r) := S.wd.facts (OwF B r) (by simp)
            replace S := S.add (AllO.snoc h1 h2)
            exact ⟨p3, c3, r, S.uu, hr, S.sub _ _⟩
      · refine sn S ?_; clear S; intro b22 a w S
        refine te S ?_
        refine tb2 ?_ ?_
        · refine sq S ?_; clear S; intro a S; refine te S ?_; refine tq S ?_; clear S; intro a S; refine tl ?_
          have hsz := S.wd.agree.size
          refine sr S (copiedo_c t _ w (good_le hgt) (foots_lt S) (S.t t)) ?_; clear S; rintro _ a w ⟨r, rfl, hr, hrf⟩ S
          replace S := S.add (Φ := OwF B r) (hrf.imp fun _ h => h.mono (B := B) (Nat.le_trans hB hsz))
          refine te S ?_; refine tl ?_
          refine sap S (by simp [maxLen]; omega) (by omega) ?_; clear S; rintro p3 c3 a w - S
          refine te S ?_
          refine tb2 ?_ ?_
          · have hKL : KLt os.length (os.length + 1) := ⟨by omega⟩
            refine sq S ?_; clear S; intro a S; refine te S ?_
            refine tb2 ?_ ?_
            · refine sws S (os.length + 1) (by omega) (by omega) ?_; clear S; intro a w S
              refine te S ?_; refine tl ?_; refine sw S ?_; clear S; intro a w S; refine te S ?_; refine tn ?_
              have e := own_put (A := encL os) (Z := [.int .i64 0, .int .i64 0, .int .i64 0, .string ⟨#[]⟩, .slice none 0 0]) (vs := r.cells) _ _ (show (encL os).length = os.length * 5 from encL_len os) rfl rfl
              rw [e, ← encT_cells, ← encL_append] at S
              have h1 : Stable _ _ (AllO B os) := S.wd.facts (AllO B os) (by simp)
              have h2 : Stable _ _ (OwF B r) := S.wd.facts (OwF B r) (by simp)
              replace S := S.add (AllO.snoc h1 h2)
              exact ⟨p3, c3, r, S.uu, hr, S.sub _ _⟩
            · refine sw S ?_; clear S; intro a w S; refine te S ?_; refine tl ?_
              refine sws S (os.length + 1) (by omega) (by omega) ?_; clear S; intro a w S
              refine te S ?_; refine tn ?_
              have e := own_put (A := encL os) (Z := [.int .i64 0, .int .i64 0, .int .i64 0, .string ⟨#[]⟩, .slice none 0 0]) (vs := r.cells) _ _ (show (encL os).length = os.length * 5 from encL_len os) rfl rfl
              rw [e, ← encT_cells, ← encL_append] at S
              have h1 : Stable _ _ (AllO B os) := S.wd.facts (AllO B os) (by simp)
              have h2 : Stable _ _ (OwF B r) := S.wd.facts (OwF B r) (by simp)
              replace S := S.add (AllO.snoc h1 h2)
              exact ⟨p3, c3, r, S.uu, hr, S.sub _ _⟩
          · refine sw S ?_; clear S; intro a w S; refine te S ?_; refine tl ?_
            have hKL : KLt os.length (os.length + 1) := ⟨by omega⟩
            refine sq S ?_; clear S; intro a S; refine te S ?_; refine tl ?_
            refine sws S (os.length + 1) (by omega) (by omega) ?_; clear S; intro a w S
            refine te S ?_; refine tn ?_
            have e := own_put (A := encL os) (Z := [.int .i64 0, .int .i64 0, .int .i64 0, .string ⟨#[]⟩, .slice none 0 0]) (vs := r.cells) _ _ (show (encL os).length = os.length * 5 from encL_len os) rfl rfl
            rw [e, ← encT_cells, ← encL_append] at S
            have h1 : Stable _ _ (AllO B os) := S.wd.facts (AllO B os) (by simp)
            have h2 : Stable _ _ (OwF B r) := S.wd.facts (OwF B r) (by simp)
            replace S := S.add (AllO.snoc h1 h2)
            exact ⟨p3, c3, r, S.uu, hr, S.sub _ _⟩
        · have hsz := S.wd.agree.size
          refine sr S (copiedo_c t _ w (good_le hgt) (foots_lt S) (S.t t)) ?_; clear S; rintro _ a w ⟨r, rfl, hr, hrf⟩ S
          replace S := S.add (Φ := OwF B r) (hrf.imp fun _ h => h.mono (B := B) (Nat.le_trans hB hsz))
          refine te S ?_; refine tl ?_; refine sq S ?_; clear S; intro a S; refine te S ?_; refine tq S ?_; clear S; intro a S; refine tl ?_
          refine sap S (by simp [maxLen]; omega) (by omega) ?_; clear S; rintro p3 c3 a w - S
          refine te S ?_
          refine tb2 ?_ ?_
          · have hKL : KLt os.length (os.length + 1) := ⟨by omega⟩
            refine sq S ?_; clear S; intro a S; refine te S ?_
            refine tb2 ?_ ?_
            · refine sws S (os.length + 1) (by omega) (by omega) ?_; clear S; intro a w S
              refine te S ?_; refine tl ?_; refine sw S ?_; clear S; intro a w S; refine te S ?_; refine tn ?_
              have e := own_put (A := encL os) (Z := [.int .i64 0, .int .i64 0, .int .i64 0, .string ⟨#[]⟩, .slice none 0 0]) (vs := r.cells) _ _ (show (encL os).length = os.length * 5 from encL_len os) rfl rfl
              rw [e, ← encT_cells, ← encL_append] at S
              have h1 : Stable _ _ (AllO B os) := S.wd.facts (AllO B os) (by simp)
              have h2 : Stable _ _ (OwF B r) := S.wd.facts (OwF B r) (by simp)
              replace S := S.add (AllO.snoc h1 h2)
              exact ⟨p3, c3, r, S.uu, hr, S.sub _ _⟩
            · refine sw S ?_; clear S; intro a w S; refine te S ?_; refine tl ?_
              refine sws S (os.length + 1) (by omega) (by omega) ?_; clear S; intro a w S
              refine te S ?_; refine tn ?_
              have e := own_put (A := encL os) (Z := [.int .i64 0, .int .i64 0, .int .i64 0, .string ⟨#[]⟩, .slice none 0 0]) (vs := r.cells) _ _ (show (encL os).length = os.length * 5 from encL_len os) rfl rfl
              rw [e, ← encT_cells, ← encL_append] at S
              have h1 : Stable _ _ (AllO B os) := S.wd.facts (AllO B os) (by simp)
              have h2 : Stable _ _ (OwF B r) := S.wd.facts (OwF B r) (by simp)
              replace S := S.add (AllO.snoc h1 h2)
              exact ⟨p3, c3, r, S.uu, hr, S.sub _ _⟩
          · refine sw S ?_; clear S; intro a w S; refine te S ?_; refine tl ?_
            have hKL : KLt os.length (os.length + 1) := ⟨by omega⟩
            refine sq S ?_; clear S; intro a S; refine te S ?_; refine tl ?_
            refine sws S (os.length + 1) (by omega) (by omega) ?_; clear S; intro a w S
            refine te S ?_; refine tn ?_
            have e := own_put (A := encL os) (Z := [.int .i64 0, .int .i64 0, .int .i64 0, .string ⟨#[]⟩, .slice none 0 0]) (vs := r.cells) _ _ (show (encL os).length = os.length * 5 from encL_len os) rfl rfl
            rw [e, ← encT_cells, ← encL_append] at S
            have h1 : Stable _ _ (AllO B os) := S.wd.facts (AllO B os) (by simp)
            have h2 : Stable _ _ (OwF B r) := S.wd.facts (OwF B r) (by simp)
            replace S := S.add (AllO.snoc h1 h2)
            exact ⟨p3, c3, r, S.uu, hr, S.sub _ _⟩
    clear S; rintro p' c' r uu a w hr S
    have hd : derB (ks.map LTerm.t) t.t = true := by simpa using h2
    have hf := S.wd.facts (AllO B (os ++ [r])) (by simp)
    have hag := S.wd.agree
    have hn8 := S.itNew (Wk.box b8 23 [.slice p' (os.length + 1) c'])
    have hnr := S.itNew (Wk.row 37 5 p' (os.length + 1) c' (encL (os ++ [r])))
    have hb := (S.toBoth).it (both (Wk.box b8 23 [.slice p' (os.length + 1) c']) (Wk.row 37 5 p' (os.length + 1) c' (encL (os ++ [r]))))
    rw [show os.length + 1 = (os ++ [r]).length from by simp] at hb hnr hn8 hf
    refine end0 S (fun _ => ⟨rfl, p', c', os ++ [r], by simp, by rw [List.map_append, hd, List.map_singleton, hr]; rfl, hb, fun k hk => hk.elim (hn8 k) (hnr k), hf.less fun k _ hk => ?_⟩)
    rcases hk with (hk | hk) | hk
    · exact ⟨_, by simp, hk⟩
    · exact ⟨_, List.mem_cons_of_mem _ (List.mem_cons_self ..), hk⟩
    · exact ⟨ext Mr, by simp, hk⟩
  · refine c_skip ?_
    have hd : derB (ks.map LTerm.t) t.t = false := by simpa using h2
    have hf := S.wd.facts (AllO B os) (by simp)
    have hb := ((S.sub [Wk.box b8 23 [.slice p os.length c], Wk.row 37 5 p os.length c (encL os)] []).toBoth).it (outI b8 p c os)
    refine end0 S (fun _ => ⟨rfl, p, c, os, by omega, by rw [hd]; simp, hb, fun k hk => .inl hk, hf.less fun k _ hk => ?_⟩)
    rcases hk with (hk | hk) | hk
    · exact ⟨Wk.box b8 23 [.slice p os.length c], by simp, hk⟩
    · exact ⟨Wk.row 37 5 p os.length c (encL os), by simp, hk⟩
    · exact ⟨ext Mr, by simp, hk⟩
def LeaksR (B : Nat) (K L : List Term) (us : List Int) (w : World) (v : Value) : Prop := ∃ (e : Int) (p : Option Addr) (c : Nat) (os : List LTerm), v = .tuple ⟨[.slice p os.length c, .int .i64 e]⟩ ∧
  (¬ RightA K us → e = 320 ∧ os = []) ∧ (RightA K us → ¬ (∀ t ∈ L, Good t) → e = 150 ∧ os = []) ∧ (RightA K us → (∀ t ∈ L, Good t) → e = 0 ∧ os.map LTerm.t = L.filter (derB K)) ∧
  w.ownsRow 0 37 5 (.slice p os.length c) os.length (encL os) ∧ (∀ ad, p = some ad → B ≤ ad.block) ∧ Stable (fun _ => False) w (AllO B os)
theorem leaks_c (us : List Int) (ks ls : List LTerm) (pu pk pl : Option Addr) (cu ck cl : Nat) (w0 : World) (hul : us.length ≤ 1000000) (hkl0 : ks.length ≤ 1000000) (hll : ls.length ≤ 900) (hu : Stable (fun _ => False) w0 (SlF pu (encL us))) (hk : Stable (fun _ => False) w0 (LsF pk 0 ks)) (hl : Stable (fun _ => False) w0 (LsF pl 0 ls)) :
    Ret Try.prog 8 [vA pu us.length cu pk ks.length ck, .slice pl ls.length cl] w0 (fun _ => False) fun v w' => LeaksR w0.heap.size (ks.map LTerm.t) (ls.map LTerm.t) us w' v := by
  refine enter Try.func8 rfl rfl (Wd.begin (fs := [SlF pu (encL us), LsF pk 0 ks, LsF pl 0 ls]) (by simp; exact ⟨hu, hk, hl⟩)) (fun a S => ?_)
  simp only [Try.ntmps8, List.length_cons, List.length_nil, Nat.reduceAdd, Nat.reduceSub, List.replicate_succ, List.replicate_zero, List.cons_append, List.nil_append] at S
  refine c_seq ?_; refine c_region ?_
  refine sa S ?_; clear S; intro b2 a w S
  (iterate 2 (refine sq S ?_; clear S; intro a S)); refine wl_nil ?_; refine xtn ?_; (iterate 2 (refine c_seq ?_)); refine c_region ?_; refine sq S ?_; clear S; intro a S
  refine sr S (acheck_c us ks pu pk cu ck _ hul (by omega) (S.mem.fact0 (SlF pu (encL us))) (S.mem.fact0 (LsF pk 0 ks))) ?_; clear S; rintro _ a w rfl S
  refine sq S ?_; clear S; intro a S; refine wl_nil ?_; refine xtn ?_; refine c_seq ?_; refine c_region ?_; (iterate 2 (refine sq S ?_; clear S; intro a S)); refine wl_nil ?_; refine xtn ?_
  refine c_cond S (fun h2 => ?_) (fun h2 => ?_)
  · refine c_seq ?_; refine c_region ?_; (iterate 3 (refine sq S ?_; clear S; intro a S)); refine wl_nil ?_; refine xtn ?_; refine c_ret ?_; refine xtr ?_
    have hn : ¬ RightA (ks.map LTerm.t) us := fun h => by rw [chkA_pos h] at h2; simp at h2
    rw [chkA_neg hn] at S
    refine end2 S (fun _ => ?_)
    exact ⟨320, none, 0, [], rfl, fun _ => ⟨rfl, rfl⟩, fun h => absurd h hn, fun h => absurd h hn, World.ownsRow_nil _ _ _ _, nofun, fun _ _ x hx => by cases hx⟩
  · refine c_skip ?_; refine xtn ?_; (iterate 2 (refine c_seq ?_))
    have hR : RightA (ks.map LTerm.t) us := chkA_zero.1 (by simpa using h2)
    refine c_region ?_; refine sq S ?_; clear S; intro a S
    refine sr S (aright_c ls pl cl w (by omega) (S.mem.fact0 (LsF pl 0 ls))) ?_; clear S; rintro _ a w rfl S
    refine sq S ?_; clear S; intro a S; refine wl_nil ?_; refine xtn ?_; refine c_seq ?_; refine c_region ?_; (iterate 2 (refine sq S ?_; clear S; intro a S)); refine wl_nil ?_; refine xtn ?_
    refine c_cond S (fun h5 => ?_) (fun h5 => ?_)
    · refine c_seq ?_; refine c_region ?_; (iterate 3 (refine sq S ?_; clear S; intro a S)); refine wl_nil ?_; refine xtn ?_; refine c_ret ?_; refine xtr ?_
      have hb : (ls.map LTerm.t).any badF = true := by
        cases hq : (ls.map LTerm.t).any badF with
        | true => rfl
        | false => rw [hq] at h5; simp at h5
      rw [if_pos hb] at S
      have hn : ¬ ∀ t ∈ ls.map LTerm.t, Good t := fun h => by rw [any_bad.2 h] at hb; cases hb
      refine end2 S (fun _ => ?_)
      exact ⟨150, none, 0, [], rfl, fun h => absurd hR h, fun _ _ => ⟨rfl, rfl⟩, fun _ h => absurd h hn, World.ownsRow_nil _ _ _ _, nofun, fun _ _ x hx => by cases hx⟩
    · refine c_skip ?_; refine xtn ?_; refine c_seq ?_
      have hb : (ls.map LTerm.t).any badF = false := by
        cases hq : (ls.map LTerm.t).any badF with
        | false => rfl
        | true => rw [hq] at h5; simp at h5
      have hG := any_bad.1 hb
      have hgK : ∀ t ∈ ks.map LTerm.t, Good t := hR.1.2.1
      have hk500 : ks.length ≤ 500 := by have := hR.1.1; simpa using this
      replace S := S.boxToF b2
      refine c_region ?_
      refine sa S ?_; clear S; intro b8 a w S
      refine wl_nil ?_; refine xtn ?_; refine c_seq ?_; refine c_region ?_; (iterate 2 (refine sq S ?_; clear S; intro a S)); refine wl_nil ?_; refine xtn ?_; (iterate 2 (refine c_seq ?_)); refine c_region ?_; (iterate 3 (refine sq S ?_; clear S; intro a S)); refine wl_nil ?_; refine xtn ?_; refine c_block ?_
      replace S := (S.addNil 37 5).perm _ (List.Perm.swap _ _ _)
      replace S := S.toBoth
      refine c_fore4 S (fun (k : Nat) (os : List LTerm) (p' : Option Addr) (c' : Nat) uu => [(11, uu 11), (13, .int .i64 (k : Nat)), (0, uu 26), (0, uu 27), (0, uu 28), (0, uu 29), (0, uu 30), (0, uu 31), (0, uu 32)]) (fun (k : Nat) (os : List LTerm) (p' : Option Addr) (c' : Nat) => [outI b8 p' c' os]) (fun (k : Nat) (os : List LTerm) (p' : Option Addr) (c' : Nat) => [AllO w0.heap.size os, BoxF b2 25 [.slice pu us.length cu, .slice pk ks.length ck], SlF pu (encL us), LsF pk 0 ks, LsF pl 0 ls]) (fun (k : Nat) (os : List LTerm) (p' : Option Addr) (c' : Nat) => k ≤ ls.length ∧ os.length ≤ k ∧ os.map LTerm.t = ((ls.take k).map LTerm.t).filter (derB (ks.map LTerm.t))) (fun (k : Nat) (os : List LTerm) (p' : Option Addr) (c' : Nat) => ls.length - k) (0) ([]) (none) (0) ?_ S.uu ?_ ?_
      · exact ⟨Nat.zero_le _, Nat.le_refl _, rfl⟩
      · exact S.add (Φ := AllO w0.heap.size []) (fun _ _ x hx => by cases hx)
      · clear S; rintro k os p' c' uu a w ⟨hkk, hok, hrel⟩ S
        refine c_seq ?_; refine c_region ?_; refine sq S ?_; clear S; intro a S; refine wl_nil ?_; refine xtn ?_; refine c_seq ?_
        refine c_cond S (fun h10 => ?_) (fun h10 => ?_)
        · refine c_skip ?_; refine xtn ?_; refine c_seq ?_; refine c_block ?_; refine c_seq ?_
          have hkl : k < ls.length := by simp at h10; omega
          have hK : KLt k ls.length := ⟨hkl⟩
          refine c_region ?_; (iterate 2 (refine sq S ?_; clear S; intro a S))
          refine sa S ?_; clear S; intro b11 a w S
          refine sw S ?_; clear S; intro a w S; refine wl_nil ?_; refine xtn ?_; refine c_region ?_; (iterate 2 (refine sq S ?_; clear S; intro a S))
          have hgt : Good (nthL ls k).t := hG _ (List.mem_map.2 ⟨_, nth_mem hkl, rfl⟩)
          have h1 : Stable _ _ (BoxF b2 _ _) := S.wd.facts (BoxF b2 25 [.slice pu us.length cu, .slice pk ks.length ck]) (by simp)
          have h2' := S.wd.facts (LsF pk 0 ks) (by simp)
          have h3 := S.wd.facts (AllO w0.heap.size os) (by simp)
          refine sitM (outI b8 p' c' os) S (leaks1_c w0.heap.size b2 b8 ks os (nthL ls k) pu pk p' us.length cu ck c' (restOf _ (outI b8 p' c' os)) w S.wd.agree.size (by omega) hk500 hgK hgt (S.it (outI b8 p' c' os)) (S.restOk _) (h1.split (outI b8 p' c' os)) (h2'.split (outI b8 p' c' os)) ((S.t (nthL ls k)).split (outI b8 p' c' os)) (h3.split (outI b8 p' c' os))) rfl ?_
          clear S h1 h2' h3; rintro _ a w ⟨rfl, p2, c2, os', hol', hom', hh, hft, hfa⟩ hS
          have S := hS (outI b8 p2 c2 os') [AllO w0.heap.size os'] hh hft (by simpa using hfa)
          clear hS
          refine wl_nil ?_; refine xbn ?_; refine xtn ?_; refine c_region ?_; (iterate 2 (refine sq S ?_; clear S; intro a S)); refine wl_nil ?_; refine xtn ?_
          rw [w64 ((k : Int) + 1) (by omega) (by omega)] at S
          refine ⟨k + 1, os', p2, c2, S.uu, ⟨hkl, by omega, ?_⟩, S.sub _ _, by omega⟩
          rw [hom', hrel, take_map_succ ls k hkl, List.filter_append]
          cases hd : derB (ks.map LTerm.t) (nthL ls k).t <;> simp [hd]
        · refine c_exit ?_; (iterate 2 (refine xte ?_)); refine xbe ?_; refine xtn ?_; refine c_seq ?_
          replace S := S.ofBoth
          refine c_region ?_; (iterate 3 (refine sq S ?_; clear S; intro a S)); refine wl_nil ?_; refine xtn ?_; refine c_ret ?_
          have hrow := S.row p' os.length
          have hnew := S.rowNew p' os.length
          have hall := S.mem.fact0 (AllO w0.heap.size os)
          rw [List.take_of_length_le (by simp at h10; omega)] at hrel
          refine end2 S (fun _ => ?_)
          exact ⟨0, p', c', os, rfl, fun h => absurd hR h, fun _ h => absurd hG h, fun _ _ => ⟨rfl, hrel⟩, hrow, fun ad h => (hnew ad h).elim (fun h => h.elim) id, hall⟩
def ownL (u : Int) (m : Nat) : List LTerm := secretL u :: (List.range (m + 1)).map fun n : Nat => freshL u n
def ownV (b2 b3 : Nat) : Value := .func (.func 71) #[] ⟨[.pointer (some ⟨b2, 0, none⟩), .pointer (some ⟨b3, 0, none⟩)]⟩
theorem own_f (u n : Int) (w0 : World) : Ret Try.prog 53 [.int .i64 u, .int .i64 n] w0 (fun _ => False) fun v w' => ∃ b2 b3, v = ownV b2 b3 ∧ w0.heap.size ≤ b2 ∧ w0.heap.size ≤ b3 ∧ BoxF b2 3 [.int .i64 u] w' ∧ BoxF b3 3 [.int .i64 n] w' := by
  refine enter Try.func53 rfl rfl (Wd.start w0) (fun a S => ?_)
  simp only [Try.ntmps53, List.length_cons, List.length_nil, Nat.reduceAdd, Nat.reduceSub, List.replicate_succ, List.replicate_zero, List.cons_append, List.nil_append] at S
  refine c_seq ?_; refine c_region ?_
  refine sa S ?_; clear S; intro b2 a w S
  refine sa S ?_; clear S; intro b3 a w S
  refine sq S ?_; clear S; intro a S; refine wl_nil ?_; refine xtn ?_; refine c_seq ?_; refine c_region ?_; (iterate 2 (refine sq S ?_; clear S; intro a S)); refine wl_nil ?_; refine xtn ?_; refine c_ret ?_
  have h1 := S.boxF b2
  have h2 := S.boxF b3
  have n1 := S.boxNew b2
  have n2 := S.boxNew b3
  refine end1 S (fun _ => ?_)
  exact ⟨b2, b3, rfl, n1.elim (fun h => h.elim) id, n2.elim (fun h => h.elim) id, h1, h2⟩
theorem own_it (b2 b3 : Nat) (u : Int) (m : Nat) (hu : 1 ≤ u ∧ u ≤ 6) (hm : m ≤ 200) (w0 : World) (M : Nat → Prop) (hM : ∀ k, M k → k < w0.heap.size) (f1 : Stable M w0 (BoxF b2 3 [.int .i64 u])) (f2 : Stable M w0 (BoxF b3 3 [.int .i64 (m : Int)])) :
    IterRet Try.prog 71 [.pointer (some ⟨b2, 0, none⟩), .pointer (some ⟨b3, 0, none⟩)] w0 M (fun (x : LTerm) vs _ _ => vs = [vL x]) (ownL u m) := by
  intro L J Jx hy hJ
  have hF : ∀ Φ ∈ [BoxF b2 3 [.int .i64 u], BoxF b3 3 [.int .i64 (m : Int)]], Stable M w0 Φ := by simp; exact ⟨f1, f2⟩
  have hlen : (ownL u m).length = m + 2 := by simp [ownL]
  have hget0 : (ownL u m)[0]? = some (secretL u) := rfl
  have hget : ∀ k, k < m + 1 → (ownL u m)[k + 1]? = some (freshL u k) := fun k hk => by simp [ownL, hk]
  refine (callsIn_wide (n := 0)).2 ?_
  refine enter Try.func71 rfl rfl (Wd.beginM (M := M) (fs := [BoxF b2 3 [.int .i64 u], BoxF b3 3 [.int .i64 (m : Int)]]) hM hF) (fun a S => ?_)
  simp only [Try.ntmps71, List.length_cons, List.length_nil, Nat.reduceAdd, Nat.reduceSub, List.replicate_succ, List.replicate_zero, List.cons_append, List.nil_append] at S
  (iterate 2 (refine c_seq ?_)); refine c_region ?_; refine sq S ?_; clear S; intro a S; refine sc S ?_; clear S; intro a w S
  rw [show isUser u = true from by simp [isUser, hu]] at S
  refine sq S ?_; clear S; intro a S
  rw [show (!true) = false from rfl] at S
  refine sq S ?_; clear S; intro a S; refine gT' S ?_; refine sq S ?_; clear S; intro a S; refine gT' S ?_; refine sq S ?_; clear S; intro a S
  rw [show decide ((m : Int) < 0) = false from by simp] at S
  (iterate 2 (refine sq S ?_; clear S; intro a S)); refine gT' S ?_; refine sq S ?_; clear S; intro a S; refine gT' S ?_; refine sq S ?_; clear S; intro a S
  rw [show decide (200 < (m : Int)) = false from by simp; omega] at S
  (iterate 2 (refine sq S ?_; clear S; intro a S)); refine gT' S ?_; refine sq S ?_; clear S; intro a S; refine gT' S ?_; refine sq S ?_; clear S; intro a S; refine gT' S ?_; refine sc S ?_; clear S; intro a w S; refine gT' S ?_
  refine sy S (M := M) (wI := w0) (fs0 := [BoxF b2 3 [.int .i64 u], BoxF b3 3 [.int .i64 (m : Int)]]) hF (hy 0 _ _ w0 w hget0 hJ S.wd.agree rfl) ?_; clear S; intro ok N' a w2 hT hX S
  refine gT' S ?_; (iterate 2 (refine sq S ?_; clear S; intro a S)); refine wl_nil ?_; refine xtn ?_
  refine c_cond S (fun h0 => ?_) (fun h0 => ?_)
  · refine c_ret ?_; refine xtr ?_
    exact endI S ⟨w2, S.wd.agree, .inr (hX (by simpa using h0))⟩
  · refine c_skip ?_; refine xtn ?_; refine c_seq ?_; refine c_region ?_; (iterate 3 (refine sq S ?_; clear S; intro a S)); refine wl_nil ?_; refine xtn ?_; refine c_block ?_
    rw [w64 ((m : Int) + 1) (by omega) (by omega)] at S
    have hJ1 : J 1 w2 := hT (by simpa using h0)
    refine c_loop (ι := Nat) (fun k a w => k ≤ m + 1 ∧ ∃ N w1, J (k + 1) w1 ∧ ∃ uu : Nat → Value,  St w1 (fun _ => False) [] a w ((.func (.yield L) #[] #[]) :: (.pointer (some ⟨b2, 0, none⟩)) :: (.pointer (some ⟨b3, 0, none⟩)) :: uu 3 :: uu 4 :: uu 5 :: uu 6 :: uu 7 :: uu 8 :: uu 9 :: uu 10 :: uu 11 :: uu 12 :: uu 13 :: uu 14 :: uu 15 :: uu 16 :: uu 17 :: uu 18 :: uu 19 :: uu 20 :: uu 21 :: uu 22 :: uu 23 :: (.int .i64 ((m : Int) + 1)) :: (.int .i64 (k : Nat)) :: uu 26 :: uu 27 :: uu 28 :: uu 29 :: uu 30 :: uu 31 :: uu 32 :: uu 33 :: uu 34 :: []) [ext N] [BoxF b2 3 [.int .i64 u], BoxF b3 3 [.int .i64 (m : Int)]]) (fun k => m + 1 - k) 0 ?_ ?_
    · exact ⟨Nat.zero_le _, N', w2, hJ1, S.uu, S⟩
    · clear S
      rintro k a w ⟨hk, N, w1, hJk, uu, S⟩
      refine c_seq ?_; refine c_region ?_; refine sq S ?_; clear S; intro a S; refine wl_nil ?_; refine xtn ?_; refine c_seq ?_
      refine c_cond S (fun h2 => ?_) (fun h2 => ?_)
      · refine c_skip ?_; refine xtn ?_; refine c_seq ?_; refine c_block ?_; refine c_seq ?_; refine c_region ?_; (iterate 2 (refine sq S ?_; clear S; intro a S)); refine wl_nil ?_; refine xtn ?_; refine c_seq ?_; refine c_region ?_; (iterate 3 (refine sq S ?_; clear S; intro a S)); refine sc S ?_; clear S; intro a w S
        have hkl : k < m + 1 := by simp at h2; omega
        refine sy S (M := M) (wI := w0) (fs0 := [BoxF b2 3 [.int .i64 u], BoxF b3 3 [.int .i64 (m : Int)]]) hF (hy (k + 1) _ _ w1 w (hget k hkl) hJk S.wd.agree rfl) ?_; clear S; intro ok N' a w2 hT hX S
        refine sq S ?_; clear S; intro a S; refine wl_nil ?_; refine xtn ?_
        refine c_cond S (fun h4 => ?_) (fun h4 => ?_)
        · refine c_ret ?_; refine xbr ?_; (iterate 2 (refine xtr ?_)); refine xbr ?_
          exact endI S ⟨w2, S.wd.agree, .inr (hX (by simpa using h4))⟩
        · refine c_skip ?_; refine xbn ?_; refine xtn ?_; refine c_region ?_; (iterate 2 (refine sq S ?_; clear S; intro a S)); refine wl_nil ?_; refine xtn ?_
          rw [w64 ((k : Int) + 1) (by omega) (by omega)] at S
          exact ⟨k + 1, ⟨hkl, N', w2, hT (by simpa using h4), S.uu, S⟩, by omega⟩
      · refine c_exit ?_; (iterate 2 (refine xte ?_)); refine xbe ?_
        refine endI S ⟨w1, S.wd.agree, .inl ?_⟩
        have h6 : k = m + 1 := by simp at h2; omega
        rw [hlen, show m + 2 = k + 1 from by omega]; exact hJk
theorem collected_c (gf : Nat) [EntF Try.prog gf] (lb : List Value) (ys : List LTerm) (fs0 : List (World → Prop)) (w0 : World) (hl : ys.length ≤ 10000000) (hfs : ∀ Φ ∈ fs0, Stable (fun _ => False) w0 Φ)
    (hit : ∀ (M : Nat → Prop) (w1 : World), (∀ k, M k → k < w1.heap.size) → (∀ Φ ∈ fs0, Stable M w1 Φ) → IterRet Try.prog gf lb w1 M (fun (x : LTerm) vs _ _ => vs = [vL x]) ys) :
    Ret Try.prog 52 [.func (.func gf) #[] ⟨lb⟩] w0 (fun _ => False) fun v w' => ∃ p' c', v = .slice p' ys.length c' ∧ w'.ownsRow 0 37 5 (.slice p' ys.length c') ys.length (encL ys) ∧ ∀ ad, p' = some ad → w0.heap.size ≤ ad.block := by
  refine enterM Try.func52 rfl rfl (Wd.begin hfs) (fun a S => ?_)
  simp only [Try.ntmps52, List.length_cons, List.length_nil, Nat.reduceAdd, Nat.reduceSub, List.replicate_succ, List.replicate_zero, List.cons_append, List.nil_append] at S
  refine c_seq ?_; refine c_region ?_; refine sq S ?_; clear S; intro a S; refine wl_nil ?_; refine xtn ?_; refine c_seq ?_; refine c_region ?_
  refine sa S ?_; clear S; intro b3 a w S
  refine wl_nil ?_; refine xtn ?_; (iterate 2 (refine c_seq ?_)); refine c_region ?_; refine sq S ?_; clear S; intro a S; refine wl_nil ?_; refine xtn ?_; refine c_block ?_
  replace S := (S.addNil 37 5)
  refine c_range (κ := Option Addr × Nat) (κx := Empty) (Ds := []) ys
    (fun i k => [Wk.row 37 5 k.1 i k.2 (encL (ys.take i)), Wk.box b3 23 [.slice k.1 i k.2], marks []]) (fun _ _ => fs0) (fun _ _ => True) (fun k => k.elim) (fun k => k.elim) (fun _ k => k.elim) (none, 0) S (fun M w1 hM hF _ => hit M w1 hM hF) ⟨trivial, by simp [encL], rfl⟩ ?_ ?_ ?_ ?_
  · clear S
    rintro L D bL M w1 i x vs ⟨p, c⟩ W0 w hx - hW0 hgr rfl
    refine ⟨_, inferInstance, fun a S => ?_⟩
    have hil : i < ys.length := (List.getElem?_eq_some_iff.1 hx).1
    have hti : ys.take (i + 1) = ys.take i ++ [x] := by rw [List.take_add_one, hx]; rfl
    have hKL : KLt i (i + 1) := ⟨by omega⟩
    have hrl : (encL (ys.take i)).length = i * 5 := S.row p i |>.1
    refine c_region ?_
    refine sa S ?_; clear S; intro b4 a w S
    refine sw S ?_; clear S; intro a w S; refine wl_nil ?_; refine xtn ?_
    refine rbegin (D := D) (b := bL) S ?_; clear S; intro a w S
    refine c_block ?_
    refine c_drawT (.q 1 (.b2 0 3 (.q 2 (.l 3 (.l 4 (.b2 5 7 (.b2 6 7 (.l 7 (.e)) (.l 6 (.e))) (.l 5 (.l 6 (.e))))))) (.l 0 (.q 2 (.l 4 (.b2 5 7 (.b2 6 7 (.l 7 (.e)) (.l 6 (.e))) (.l 5 (.l 6 (.e))))))))) [Wk.box b4 37 x.cells] S
      (fun a w => ∃ (p' : Option Addr) (c' : Nat) (l' : List Value), St w1 M [] a w l' [lpI L D (lpR bL .busy none), Wk.row 37 5 p' (i + 1) c' (encL (ys.take (i + 1))), Wk.box b3 23 [.slice p' (i + 1) c'], marks []] fs0) ?_ ?_
    · intro w S
      refine tq S ?_; clear S; intro a S
      refine tb2 ?_ ?_
      · refine sq S ?_; clear S; intro a S; refine te S ?_; refine tq S ?_; clear S; intro a S; refine tl ?_
        refine sn S ?_; clear S; intro b10 a w S
        refine te S ?_; refine tl ?_
        refine sap S (by simp [maxLen]; omega) (by omega) ?_; clear S; rintro p3 c3 a w - S
        refine te S ?_
        refine tb2 ?_ ?_
        · refine sq S ?_; clear S; intro a S; refine te S ?_
          refine tb2 ?_ ?_
          · refine sws S (i + 1) (by omega) (by omega) ?_; clear S; intro a w S
            refine te S ?_; refine tl ?_; refine sw S ?_; clear S; intro a w S; refine te S ?_; refine tn ?_
            have e := own_put (A := encL (ys.take i)) (Z := [.int .i64 0, .int .i64 0, .int .i64 0, .string ⟨#[]⟩, .slice none 0 0]) (vs := x.cells) _ _ hrl rfl rfl
            rw [e, show encL (ys.take i) ++ x.cells = encL (ys.take (i + 1)) from by rw [hti, encL_append]; simp [encL, Enc.cells]] at S
            exact ⟨p3, c3, _, S.sub _ _⟩
          · refine sw S ?_; clear S; intro a w S; refine te S ?_; refine tl ?_
            refine sws S (i + 1) (by omega) (by omega) ?_; clear S; intro a w S
            refine te S ?_; refine tn ?_
            have e := own_put (A := encL (ys.take i)) (Z := [.int .i64 0, .int .i64 0, .int .i64 0, .string ⟨#[]⟩, .slice none 0 0]) (vs := x.cells) _ _ hrl rfl rfl
            rw [e, show encL (ys.take i) ++ x.cells = encL (ys.take (i + 1)) from by rw [hti, encL_append]; simp [encL, Enc.cells]] at S
            exact ⟨p3, c3, _, S.sub _ _⟩
        · refine sw S ?_; clear S; intro a w S; refine te S ?_; refine tl ?_; refine sq S ?_; clear S; intro a S; refine te S ?_; refine tl ?_
          refine sws S (i + 1) (by omega) (by omega) ?_; clear S; intro a w S
          refine te S ?_; refine tn ?_
          have e := own_put (A := encL (ys.take i)) (Z := [.int .i64 0, .int .i64 0, .int .i64 0, .string ⟨#[]⟩, .slice none 0 0]) (vs := x.cells) _ _ hrl rfl rfl
          rw [e, show encL (ys.take i) ++ x.cells = encL (ys.take (i + 1)) from by rw [hti, encL_append]; simp [encL, Enc.cells]] at S
          exact ⟨p3, c3, _, S.sub _ _⟩
      · refine sn S ?_; clear S; intro b10 a w S
        refine te S ?_; refine tl ?_; refine sq S ?_; clear S; intro a S; refine te S ?_; refine tq S ?_; clear S; intro a S; refine tl ?_
        refine sap S (by simp [maxLen]; omega) (by omega) ?_; clear S; rintro p3 c3 a w - S
        refine te S ?_
        refine tb2 ?_ ?_
        · refine sq S ?_; clear S; intro a S; refine te S ?_
          refine tb2 ?_ ?_
          · refine sws S (i + 1) (by omega) (by omega) ?_; clear S; intro a w S
            refine te S ?_; refine tl ?_; refine sw S ?_; clear S; intro a w S; refine te S ?_; refine tn ?_
            have e := own_put (A := encL (ys.take i)) (Z := [.int .i64 0, .int .i64 0, .int .i64 0, .string ⟨#[]⟩, .slice none 0 0]) (vs := x.cells) _ _ hrl rfl rfl
            rw [e, show encL (ys.take i) ++ x.cells = encL (ys.take (i + 1)) from by rw [hti, encL_append]; simp [encL, Enc.cells]] at S
            exact ⟨p3, c3, _, S.sub _ _⟩
          · refine sw S ?_; clear S; intro a w S; refine te S ?_; refine tl ?_
            refine sws S (i + 1) (by omega) (by omega) ?_; clear S; intro a w S
            refine te S ?_; refine tn ?_
            have e := own_put (A := encL (ys.take i)) (Z := [.int .i64 0, .int .i64 0, .int .i64 0, .string ⟨#[]⟩, .slice none 0 0]) (vs := x.cells) _ _ hrl rfl rfl
            rw [e, show encL (ys.take i) ++ x.cells = encL (ys.take (i + 1)) from by rw [hti, encL_append]; simp [encL, Enc.cells]] at S
            exact ⟨p3, c3, _, S.sub _ _⟩
        · refine sw S ?_; clear S; intro a w S; refine te S ?_; refine tl ?_; refine sq S ?_; clear S; intro a S; refine te S ?_; refine tl ?_
          refine sws S (i + 1) (by omega) (by omega) ?_; clear S; intro a w S
          refine te S ?_; refine tn ?_
          have e := own_put (A := encL (ys.take i)) (Z := [.int .i64 0, .int .i64 0, .int .i64 0, .string ⟨#[]⟩, .slice none 0 0]) (vs := x.cells) _ _ hrl rfl rfl
          rw [e, show encL (ys.take i) ++ x.cells = encL (ys.take (i + 1)) from by rw [hti, encL_append]; simp [encL, Enc.cells]] at S
          exact ⟨p3, c3, _, S.sub _ _⟩
    rintro a w ⟨p2, c2, l2, S⟩
    refine xbn ?_
    exact rnext (D := D) (b := bL) S fun W hW => ⟨(p2, c2), trivial, hW⟩
  · clear S
    rintro D ⟨p2, c2⟩ a w - S
    refine xbn ?_; refine xtn ?_; refine c_seq ?_; refine c_region ?_; (iterate 2 (refine sq S ?_; clear S; intro a S)); refine wl_nil ?_; refine xtn ?_; refine c_ret ?_
    replace S := S.join (Ds := [])
    have hrow := S.row p2 ys.length
    have hnew := S.rowNew p2 ys.length
    refine endM1 S (fun w hw => ?_)
    have h1 := hw.held (Wk.row 37 5 p2 ys.length c2 (encL (ys.take ys.length))) (by simp)
    rw [List.take_length] at h1
    exact ⟨p2, c2, rfl, h1, fun ad h => (hnew ad h).elim (fun h => h.elim) id⟩
  · intro D k; exact k.elim
  · intro id D k; exact k.elim
theorem Own_c (u : Int) (m : Nat) (hu : 1 ≤ u ∧ u ≤ 6) (hm : m ≤ 200) (w0 : World) : Ret Try.prog 34 [.int .i64 u, .int .i64 (m : Int)] w0 (fun _ => False) fun v w' => ∃ p c, v = .slice p (ownL u m).length c ∧ w'.ownsRow 0 37 5 (.slice p (ownL u m).length c) (ownL u m).length (encL (ownL u m)) ∧ ∀ ad, p = some ad → w0.heap.size ≤ ad.block := by
  refine enter Try.func34 rfl rfl (Wd.start w0) (fun a S => ?_)
  simp only [Try.ntmps34, List.length_cons, List.length_nil, Nat.reduceAdd, Nat.reduceSub, List.replicate_succ, List.replicate_zero, List.cons_append, List.nil_append] at S
  refine c_seq ?_; refine c_region ?_; refine sq S ?_; clear S; intro a S; refine wl_nil ?_; refine xtn ?_; refine c_seq ?_; refine c_region ?_; (iterate 2 (refine sq S ?_; clear S; intro a S))
  refine sr S (own_f u m _) ?_; clear S; rintro _ a w ⟨b2, b3, rfl, -, -, f1, f2⟩ S
  replace S := (S.add (BoxF.stable f1 (fun ⟨it, hi, _⟩ => by cases hi))).add (BoxF.stable f2 (fun ⟨it, hi, _⟩ => by cases hi))
  refine srn S (collected_c 71 [.pointer (some ⟨b2, 0, none⟩), .pointer (some ⟨b3, 0, none⟩)] (ownL u m) [BoxF b2 3 [.int .i64 u], BoxF b3 3 [.int .i64 (m : Int)]] w (by simp [ownL]; omega) (by simp; exact ⟨S.mem.fact0 (BoxF b2 3 [.int .i64 u]), S.mem.fact0 (BoxF b3 3 [.int .i64 (m : Int)])⟩)
    (fun M w1 hM hF => own_it b2 b3 u m hu hm w1 M hM (hF _ (by simp)) (hF _ (by simp)))) ?_; clear S; rintro _ a w ⟨p, c, rfl, hown, hnew⟩ hS -
  have S := hS hown hnew
  clear hS
  refine sq S ?_; clear S; intro a S; refine wl_nil ?_; refine xtn ?_; refine c_ret ?_
  have hrow := S.row p (ownL u m).length
  have hn2 := S.rowNew p (ownL u m).length
  refine end1 S (fun _ => ?_)
  exact ⟨p, c, rfl, hrow, fun ad h => (hn2 ad h).elim (fun h => h.elim) id⟩
theorem search_nil (x : Int) (p : Option Addr) (c : Nat) (w0 : World) : Ret Try.prog 35 [.slice p 0 c, .int .i64 x] w0 (fun _ => False) fun v _ => v = .tuple ⟨[.int .i64 0, .bool false]⟩ := by
  refine enter Try.func35 rfl rfl (Wd.start w0) (fun a S => ?_)
  simp only [Try.ntmps35, List.length_cons, List.length_nil, Nat.reduceAdd, Nat.reduceSub, List.replicate_succ, List.replicate_zero, List.cons_append, List.nil_append] at S
  refine c_seq ?_; refine c_region ?_; (iterate 2 (refine sq S ?_; clear S; intro a S)); refine wl_nil ?_; refine xtn ?_; refine c_seq ?_; refine c_region ?_; (iterate 3 (refine sq S ?_; clear S; intro a S)); refine wl_nil ?_; refine xtn ?_; refine c_seq ?_; refine c_region ?_; (iterate 3 (refine sq S ?_; clear S; intro a S)); refine wl_nil ?_; refine xtn ?_; refine c_seq ?_; refine c_block ?_
  refine c_forb1 S (fun (k : Nat) uu => [(7, .int .i64 0), (0, .int .i64 ((0 : Nat) : Int)), (0, uu 9), (3, uu 13), (0, uu 14), (0, uu 15), (0, uu 16), (0, uu 17), (0, uu 18), (0, uu 19), (0, uu 20), (0, uu 21), (0, uu 22), (0, uu 23), (0, uu 24), (0, uu 25), (0, uu 26), (0, uu 27), (0, uu 28), (0, uu 29), (0, uu 30)]) (fun (k : Nat) => True) (fun (k : Nat) => 0) (0) ?_ S.uu ?_ ?_
  · trivial
  · first | exact S | exact S.sub _ _
  · clear S; rintro k uu a w hrel S
    (iterate 2 (refine c_seq ?_)); refine c_region ?_; (iterate 3 (refine sq S ?_; clear S; intro a S))
    rw [show decide ((0 : Int) < ((0 : Nat) : Int)) = false from rfl] at S
    refine wl_nil ?_; refine xtn ?_; refine c_condF S ?_; refine c_exit ?_; (iterate 2 (refine xte ?_)); refine xbe ?_; refine xtn ?_; refine c_seq ?_; refine c_region ?_; (iterate 4 (refine sq S ?_; clear S; intro a S))
    rw [show decide ((0 : Int) < ((0 : Nat) : Int)) = false from rfl] at S
    refine sq S ?_; clear S; intro a S; (iterate 7 (refine gF S ?_; clear S; intro a S)); (iterate 9 (refine gU S ?_; clear S; intro a S)); refine gF S ?_; clear S; intro a S; (iterate 3 (refine sq S ?_; clear S; intro a S)); refine wl_nil ?_; refine xtn ?_; refine c_ret ?_
    refine end2 S (fun _ => ?_)
    rfl
theorem insert_end (xs : List Int) (v : Int) (p : Option Addr) (n c b : Nat) (w0 : World) (hn : n ≤ 1000) (hnc : n ≤ c) (hown : w0.ownsRow 0 3 1 (.slice p n c) n (encL xs)) (hx : xs.length = n) (hb : Stable (fun k => ∃ ad, p = some ad ∧ k = ad.block) w0 (BoxF b 3 [.int .i64 v])) :
    Ret Try.prog 36 [.slice p n c, .int .i64 (n : Int), .slice (some ⟨b, 0, none⟩) 1 1] w0 (fun k => ∃ ad, p = some ad ∧ k = ad.block) fun u w' => ∃ p' c', u = .slice p' (n + 1) c' ∧ w'.ownsRow 0 3 1 (.slice p' (n + 1) c') (n + 1) (encL (xs ++ [v])) ∧ ∀ ad, p' = some ad → (∃ ad', p = some ad' ∧ ad.block = ad'.block) ∨ w0.heap.size ≤ ad.block := by
  have hle : LeC n c := ⟨hnc⟩
  refine enter Try.func36 rfl rfl (Wd.rowLent (fs := [BoxF b 3 [.int .i64 v]]) hown (by simpa using hb)) (fun a S => ?_)
  simp only [Try.ntmps36, List.length_cons, List.length_nil, Nat.reduceAdd, Nat.reduceSub, List.replicate_succ, List.replicate_zero, List.cons_append, List.nil_append] at S
  refine c_seq ?_; refine c_region ?_; refine sq S ?_; clear S; intro a S; refine wl_nil ?_; refine xtn ?_; refine c_seq ?_; refine c_region ?_; (iterate 3 (refine sq S ?_; clear S; intro a S)); refine wl_nil ?_; refine xtn ?_; refine c_seq ?_; refine c_region ?_; (iterate 3 (refine sq S ?_; clear S; intro a S)); refine wl_nil ?_; refine xtn ?_; (iterate 2 (refine c_seq ?_)); refine c_region ?_; (iterate 2 (refine sq S ?_; clear S; intro a S))
  rw [show decide (((1 : Nat) : Int) = 0) = false from rfl] at S
  refine wl_nil ?_; refine xtn ?_; refine c_condF S ?_; refine c_skip ?_; refine xtn ?_; refine c_seq ?_; refine c_region ?_; (iterate 3 (refine sq S ?_; clear S; intro a S)); refine wl_nil ?_; refine xtn ?_; (iterate 2 (refine c_seq ?_)); refine c_region ?_; (iterate 3 (refine sq S ?_; clear S; intro a S))
  rw [show decide ((n : Int) = (n : Int)) = true from by simp] at S
  refine wl_nil ?_; refine xtn ?_; refine c_condT S ?_; refine c_seq ?_; refine c_region ?_; (iterate 2 (refine sq S ?_; clear S; intro a S))
  have hs : SrcV Try.prog 22 (.slice (some ⟨b, 0, none⟩) 1 1) [Wk.row 3 1 p n c (encL xs)] [BoxF b 3 [.int .i64 v]] 1 1 [.int .i64 v] := ⟨fun w mm => by
    have hbx : BoxF b 3 [.int .i64 v] w := (mm.fact0 (BoxF b 3 [.int .i64 v])).now
    refine Src.ofSlice w (Und.eq (P := Try.prog) (t := 22)) _ _ _ _ rfl (fun j u hj => ?_) (fun u hu => by obtain rfl := List.mem_singleton.1 hu; rfl)
    have e : (⟨b, 0, none⟩ : Addr).add j = ⟨b, j, none⟩ := by unfold Addr.add; split <;> simp_all
    rw [e, cell_of_row w b j #[.int .i64 v] 3 (0, 0) hbx]
    simpa using hj⟩
  refine sap S (by simp [maxLen]; omega) (by omega) ?_; clear S; rintro p7 c7 a w - S
  rw [show encL xs ++ [.int .i64 v] = encL (xs ++ [v]) from by rw [encL_append]; rfl] at S
  refine sq S ?_; clear S; intro a S; refine wl_nil ?_; refine xtn ?_; refine c_ret ?_; refine xtr ?_
  have hrow := S.row p7 (n + 1)
  have hnew := S.rowNew p7 (n + 1)
  refine end1 S (fun _ => ?_)
  exact ⟨p7, c7, rfl, hrow, hnew⟩
theorem ownL_in (u : Int) (m : Nat) (w : World) : ∀ x ∈ ownL u m, LtIn w x := fun x hx => by
  rcases List.mem_cons.1 hx with rfl | hx
  · simp [secretL, LtIn, LsIn]
  · obtain ⟨n, _, rfl⟩ := List.mem_map.1 hx; exact freshL_in w u n
theorem ownL_good (u : Int) (m : Nat) (hu : 1 ≤ u ∧ u ≤ 6) (hm : m ≤ 200) : ∀ x ∈ ownL u m, Good x.t := fun x hx => by
  rcases List.mem_cons.1 hx with rfl | hx
  · exact good_secret hu
  · obtain ⟨n, hn, rfl⟩ := List.mem_map.1 hx
    exact good_fresh hu (by have := List.mem_range.1 hn; omega)
theorem corrupt_c (ks : List LTerm) (u : Int) (m : Nat) (pk : Option Addr) (ck : Nat) (M : Nat → Prop) (w0 : World) (hM : ∀ k, M k → k < w0.heap.size) (hkl : ks.length ≤ 400) (hu : 1 ≤ u ∧ u ≤ 6) (hm : m ≤ 200) (hR : RightA (ks.map LTerm.t) []) (hd : (ded [] ((ks ++ ownL u m).map LTerm.t)).length ≤ 500) (hk : Stable M w0 (LsF pk 0 ks)) :
    Ret Try.prog 19 [vA none 0 0 pk ks.length ck, .int .i64 u, .int .i64 (m : Int)] w0 (fun _ => False) fun v w' => ∃ (pu' : Option Addr) (cu' : Nat) (pk' : Option Addr) (ck' : Nat) (ks' : List LTerm), v = .tuple ⟨[vA pu' 1 cu' pk' ks'.length ck', .int .i64 0]⟩ ∧ Stable M w' (SlF pu' (encL [u])) ∧ Stable M w' (LsF pk' 0 ks') ∧ ks'.map LTerm.t = ded [] ((ks ++ ownL u m).map LTerm.t) := by
  have hol : (ownL u m).length = m + 2 := by simp [ownL]
  refine enter Try.func19 rfl rfl (Wd.beginM (M := M) (fs := [LsF pk 0 ks]) hM (by simpa using hk)) (fun a S => ?_)
  simp only [Try.ntmps19, List.length_cons, List.length_nil, Nat.reduceAdd, Nat.reduceSub, List.replicate_succ, List.replicate_zero, List.cons_append, List.nil_append] at S
  refine c_seq ?_; refine c_region ?_
  refine sa S ?_; clear S; intro b3 a w S
  refine sa S ?_; clear S; intro b6 a w S
  refine sq S ?_; clear S; intro a S; refine wl_nil ?_; refine xtn ?_; refine c_seq ?_; refine c_region ?_; refine sq S ?_; clear S; intro a S
  refine sr S (acheck_c [] ks none pk 0 ck _ (by simp) (by omega) (fun w _ => SlF.nil) (S.mem.fact0 (LsF pk 0 ks))) ?_; clear S; rintro _ a w rfl S
  rw [chkA_pos hR] at S
  refine sq S ?_; clear S; intro a S; refine wl_nil ?_; refine xtn ?_; refine c_seq ?_; refine c_region ?_; (iterate 2 (refine sq S ?_; clear S; intro a S))
  refine srn S (Own_c u m hu hm _) ?_; clear S; rintro _ a w ⟨p9, c9, rfl, hown, hnew⟩ hS -
  have S := hS hown hnew
  clear hS
  replace S := S.rowLs (fun x hx w _ => ownL_in u m w x hx)
  refine sq S ?_; clear S; intro a S; refine wl_nil ?_; refine xtn ?_; refine c_seq ?_; refine c_region ?_; (iterate 3 (refine sq S ?_; clear S; intro a S))
  refine sr S (search_nil u none 0 _) ?_; clear S; rintro _ a w rfl S
  (iterate 5 (refine sq S ?_; clear S; intro a S)); refine wl_nil ?_; refine xtn ?_; refine c_seq ?_; refine c_block ?_; refine c_seq ?_; refine c_region ?_; (iterate 2 (refine sq S ?_; clear S; intro a S))
  rw [show (!decide ((0 : Int) = 0)) = false from rfl] at S
  refine sq S ?_; clear S; intro a S; refine wl_nil ?_; refine xtn ?_; refine c_condF S ?_; refine c_seq ?_; refine c_region ?_; (iterate 3 (refine sq S ?_; clear S; intro a S))
  rw [show decide (((ownL u m).length : Int) = 0) = false from by simp [hol]; omega] at S
  refine sq S ?_; clear S; intro a S; refine wl_nil ?_; refine xtn ?_; refine c_condF S ?_; refine c_seq ?_; refine c_region ?_; (iterate 2 (refine sq S ?_; clear S; intro a S)); refine wl_nil ?_; refine xtn ?_; refine c_condF S ?_; refine c_skip ?_; refine xbn ?_; refine xtn ?_; refine c_seq ?_; refine c_region ?_; (iterate 2 (refine sq S ?_; clear S; intro a S))
  have hc : ∀ x ∈ ks ++ ownL u m, cnt x.t ≤ 1200 := fun x hx => by
    rcases List.mem_append.1 hx with hx | hx
    · exact good_le (hR.1.2.1 _ (List.mem_map.2 ⟨x, hx, rfl⟩))
    · exact good_le (ownL_good u m hu hm x hx)
  refine sr S (learn_c [] ks (ownL u m) none pk p9 0 ck c9 _ w (foots_lt S) (by simp) (by omega) (by omega) hc (fun w _ => SlF.nil) (S.wd.facts (LsF pk 0 ks) (by simp)) (S.wd.facts (LsF p9 0 (ownL u m)) (by simp))) ?_; clear S; rintro _ a w ⟨e, pu', cu', pk', ck', us', ks', rfl, -, hk', he1, he2, he3, he4, he5⟩ S
  replace S := S.add hk'
  obtain rfl := he2 hd
  obtain ⟨rfl, hks', -⟩ := he3 rfl
  obtain ⟨rfl, rfl⟩ := he5 rfl
  (iterate 3 (refine sq S ?_; clear S; intro a S))
  refine sa S ?_; clear S; intro b12 a w S
  refine sw S ?_; clear S; intro a w S; refine sq S ?_; clear S; intro a S; refine wl_nil ?_; refine xtn ?_; (iterate 2 (refine c_seq ?_)); refine c_region ?_; (iterate 2 (refine sq S ?_; clear S; intro a S))
  rw [show (!decide ((0 : Int) = 0)) = false from rfl] at S
  refine wl_nil ?_; refine xtn ?_; refine c_condF S ?_; refine c_skip ?_; refine xtn ?_; refine c_seq ?_; refine c_region ?_; (iterate 4 (refine sq S ?_; clear S; intro a S))
  refine sn S ?_; clear S; intro b52 a w S
  have hb := BoxF.stable (M := fun k => ∃ ad : Addr, (none : Option Addr) = some ad ∧ k = ad.block) (S.boxF b52) (fun ⟨_, h, _⟩ => by cases h)
  replace S := S.addNil 3 1
  refine srg none 0 S (insert_end [] u none 0 0 b52 w (by omega) (by omega) (S.row none 0) rfl hb) ?_; clear S hb; rintro _ a w ⟨p13, c13, rfl, hown, hnew⟩ hS
  have S := hS _ hown hnew
  clear hS
  simp only [Nat.zero_add, List.nil_append] at S
  refine sq S ?_; clear S; intro a S; refine sw S ?_; clear S; intro a w S; refine wl_nil ?_; refine xtn ?_; refine c_seq ?_; refine c_region ?_; refine sq S ?_; clear S; intro a S; refine sw S ?_; clear S; intro a w S; refine sq S ?_; clear S; intro a S; refine wl_nil ?_; refine xtn ?_; refine c_ret ?_
  have hrow := S.row p13 1
  have hnew := S.rowNew p13 1
  have hl := S.laterFact (Φ := LsF pk' 0 ks') (by simp)
  refine end2 S (fun _ => ?_)
  exact ⟨p13, c13, pk', ck', ks', rfl, SlF.stable (own_sl hrow) (fun ad h hm => (hnew ad h).elim id (fun h2 => by have := hM _ hm; omega)), hl, hks'⟩
theorem fresh22_c (u n : Int) (w0 : World) : Ret Try.prog 17 [.int .i64 u, .int .i64 n] w0 (fun _ => False) fun v _ => v = vL (freshL u n) := by
  refine enter Try.func17 rfl rfl (Wd.start w0) (fun a S => ?_)
  simp only [Try.ntmps17, List.length_cons, List.length_nil, Nat.reduceAdd, Nat.reduceSub, List.replicate_succ, List.replicate_zero, List.cons_append, List.nil_append] at S
  refine c_seq ?_; refine c_region ?_
  refine sa S ?_; clear S; intro b4 a w S
  refine wl_nil ?_; refine xtn ?_; refine c_seq ?_; refine c_region ?_; (iterate 3 (refine sq S ?_; clear S; intro a S)); refine sw S ?_; clear S; intro a w S; refine wl_nil ?_; refine xtn ?_; refine c_ret ?_
  refine end1 S (fun _ => ?_)
  rfl
instance {u n : Int} {bs fs} : CallV Try.prog 17 [.int .i64 u, .int .i64 n] bs fs (vL (freshL u n)) := ⟨fun w _ => fresh22_c u n w⟩
theorem wakes22_c (w0 : World) : Ret Try.prog 4 [] w0 (fun _ => False) fun v _ => v = .bool true := by
  refine enter Try.func4 rfl rfl (Wd.start w0) (fun a S => ?_)
  simp only [Try.ntmps4, List.length_cons, List.length_nil, Nat.reduceAdd, Nat.reduceSub, List.replicate_succ, List.replicate_zero, List.cons_append, List.nil_append] at S
  refine c_seq ?_; refine c_region ?_; refine sq S ?_; clear S; intro a S; refine wl_nil ?_; refine xtn ?_; refine c_seq ?_; refine c_region ?_; (iterate 2 (refine sc S ?_; clear S; intro a w S))
  refine sa S ?_; clear S; intro b1 a w S
  refine sa S ?_; clear S; intro b2 a w S
  (iterate 2 (refine sw S ?_; clear S; intro a w S)); refine wl_nil ?_; refine xtn ?_; refine c_seq ?_; refine c_region ?_; (iterate 3 (refine sq S ?_; clear S; intro a S))
  refine sn S ?_; clear S; intro b17 a w S
  (iterate 2 (refine sq S ?_; clear S; intro a S))
  refine sn S ?_; clear S; intro b20 a w S
  refine sq S ?_; clear S; intro a S
  refine sn S ?_; clear S; intro b22 a w S
  replace S := S.frontLs b17 [freshL 1 2, freshL 1 1] rfl (fun t ht => by simp at ht; rcases ht with rfl | rfl <;> exact S.t _)
  replace S := S.frontLs b20 [freshL 1 2] rfl (fun t ht => by simp at ht; rcases ht with rfl; exact S.t _)
  have hL : ∀ t ∈ [LTerm.mk 6 0 0 [] (some ⟨b17, 0, none⟩) 2 [freshL 1 2, freshL 1 1], LTerm.mk 7 2 0 [] (some ⟨b20, 0, none⟩) 1 [freshL 1 2]], Stable _ _ (LtF t) := fun t ht => by
    simp only [List.mem_cons, List.not_mem_nil, or_false] at ht
    rcases ht with rfl | rfl
    · exact ltF_mk (Nat.le_refl _) (by simp [maxLen]) (S.wd.facts (LsF (some ⟨b17, 0, none⟩) 0 [freshL 1 2, freshL 1 1]) (by simp))
    · exact ltF_mk (Nat.le_refl _) (by simp [maxLen]) (S.wd.facts (LsF (some ⟨b20, 0, none⟩) 0 [freshL 1 2]) (by simp))
  replace S := S.frontLs b22 _ rfl hL
  refine sr S (Learn_c [] [] [LTerm.mk 6 0 0 [] (some ⟨b17, 0, none⟩) 2 [freshL 1 2, freshL 1 1], LTerm.mk 7 2 0 [] (some ⟨b20, 0, none⟩) 1 [freshL 1 2]] none none (some ⟨b22, 0, none⟩) 0 0 2 _ _ (foots_lt S) (by simp) (by simp) (by simp) (fun w _ => SlF.nil) (fun w _ => by simp [LsF, LsIn]) (S.wd.facts (LsF (some ⟨b22, 0, none⟩) 0 _) (by simp))) ?_
  clear S hL; rintro _ a w ⟨e, pu', cu', pk', ck', us', ks', rfl, -, hk', he1, he3, he4, he5⟩ S
  replace S := S.add hk'
  have hw2 : ([] ++ [LTerm.mk 6 0 0 [] (some ⟨b17, 0, none⟩) 2 [freshL 1 2, freshL 1 1], LTerm.mk 7 2 0 [] (some ⟨b20, 0, none⟩) 1 [freshL 1 2]]).map LTerm.t = [wT1, wT2] := rfl
  have hg2 : ∀ t ∈ [LTerm.mk 6 0 0 [] (some ⟨b17, 0, none⟩) 2 [freshL 1 2, freshL 1 1], LTerm.mk 7 2 0 [] (some ⟨b20, 0, none⟩) 1 [freshL 1 2]].map LTerm.t, Good t := by
    show ∀ t ∈ [wT1, wT2], Good t
    simp; exact ⟨wT1_good, wT2_good⟩
  rw [hw2, wake_ded2] at he1 he3
  obtain rfl := (he1 wake_0 hg2).2 (by simp)
  obtain ⟨-, -, rfl, hks, -⟩ := he3 rfl
  obtain ⟨rfl, rfl⟩ := he5 rfl
  have hkl : ks'.length = 2 := by have := congrArg List.length hks; simpa using this
  (iterate 3 (refine sq S ?_; clear S; intro a S))
  refine sa S ?_; clear S; intro b3 a w S
  refine sw S ?_; clear S; intro a w S; refine sq S ?_; clear S; intro a S; refine wl_nil ?_; refine xtn ?_; refine c_seq ?_; refine c_region ?_; (iterate 3 (refine sq S ?_; clear S; intro a S))
  refine sn S ?_; clear S; intro b30 a w S
  have hls := lsBox (ts := [freshL 1 1, freshL 1 2]) (S.box b30) (fun x hx => by simp at hx; rcases hx with rfl | rfl <;> exact S.mem.t0 _)
  refine sr S (leaks_c [] ks' [freshL 1 1, freshL 1 2] none pk' (some ⟨b30, 0, none⟩) 0 ck' 2 w (by simp) (by omega) (by simp) (fun w _ => SlF.nil) (S.mem.fact0 (LsF pk' 0 ks')) hls) ?_; clear S hls; rintro _ a w ⟨f, px, cx, xs, rfl, -, -, hx, -, -, -⟩ S
  rw [hks] at hx
  obtain ⟨rfl, hx2⟩ := hx wake_a (by show ∀ t ∈ [wN, wK], Good t; simp; exact ⟨wN_good, wK_good⟩)
  have hx0 : xs.length = 0 := by
    have := congrArg List.length hx2
    rw [List.length_map] at this
    rw [this]
    show ([wN, wK].filter (derB [wT1, wT2])).length = 0
    simp [wake_no]
  (iterate 5 (refine sq S ?_; clear S; intro a S)); refine wl_nil ?_; refine xtn ?_; refine c_seq ?_; refine c_region ?_; refine sq S ?_; clear S; intro a S
  have hd4 : ded [] ((ks' ++ ownL 2 0).map LTerm.t) = [wT1, wT2, secretT 2, wF] := by
    rw [List.map_append, hks]; exact wake_ded4
  refine sr S (corrupt_c ks' 2 0 pk' ck' _ w (foots_lt S) (by omega) (by omega) (by omega) (by rw [hks]; exact wake_a) (by rw [hd4]; simp) (S.wd.facts (LsF pk' 0 ks') (by simp))) ?_; clear S; rintro _ a w ⟨pu2, cu2, pk2, ck2, ks2, rfl, hu2, hk2, hks2⟩ S
  rw [hd4] at hks2
  have hkl2 : ks2.length = 4 := by have := congrArg List.length hks2; simpa using this
  replace S := (S.add hu2).add hk2
  (iterate 3 (refine sq S ?_; clear S; intro a S))
  refine sa S ?_; clear S; intro b7 a w S
  refine sw S ?_; clear S; intro a w S; refine sq S ?_; clear S; intro a S; refine wl_nil ?_; refine xtn ?_; refine c_seq ?_; refine c_region ?_; (iterate 3 (refine sq S ?_; clear S; intro a S))
  refine sn S ?_; clear S; intro b43 a w S
  have hls := lsBox (ts := [freshL 1 1, freshL 1 2]) (S.box b43) (fun x hx => by simp at hx; rcases hx with rfl | rfl <;> exact S.mem.t0 _)
  refine sr S (leaks_c [2] ks2 [freshL 1 1, freshL 1 2] pu2 pk2 (some ⟨b43, 0, none⟩) cu2 ck2 2 w (by simp) (by omega) (by simp) (S.mem.fact0 (SlF pu2 (encL [2]))) (S.mem.fact0 (LsF pk2 0 ks2)) hls) ?_; clear S hls; rintro _ a w ⟨f, py, cy, ys, rfl, -, -, hy, -, -, -⟩ S
  rw [hks2] at hy
  obtain ⟨rfl, hy2⟩ := hy wake_b (by show ∀ t ∈ [wN, wK], Good t; simp; exact ⟨wN_good, wK_good⟩)
  have hy0 : ys.length = 2 := by
    have := congrArg List.length hy2
    rw [List.length_map] at this
    rw [this]
    show ([wN, wK].filter (derB [wT1, wT2, secretT 2, wF])).length = 2
    simp [wake_n, wake_k]
  (iterate 5 (refine sq S ?_; clear S; intro a S)); refine wl_nil ?_; refine xtn ?_; refine c_seq ?_; refine c_region ?_; (iterate 3 (refine sq S ?_; clear S; intro a S)); (iterate 2 (refine gQ S ?_; clear S; intro a S)); (iterate 2 (refine sq S ?_; clear S; intro a S)); (iterate 2 (refine gQ S ?_; clear S; intro a S)); (iterate 2 (refine sq S ?_; clear S; intro a S)); (iterate 2 (refine gQ S ?_; clear S; intro a S))
  (iterate 2 (refine sq S ?_; clear S; intro a S)); (iterate 3 (refine gQ S ?_; clear S; intro a S)); (iterate 2 (refine sq S ?_; clear S; intro a S)); (iterate 3 (refine gQ S ?_; clear S; intro a S)); (iterate 2 (refine sq S ?_; clear S; intro a S)); (iterate 4 (refine gQ S ?_; clear S; intro a S)); (iterate 2 (refine sq S ?_; clear S; intro a S)); refine wl_nil ?_; refine xtn ?_; refine c_ret ?_
  refine end1 S (fun _ => ?_)
  simp [hx0, hy0]
structure LAtk where
  users : Sl Int
  known : Sl LTerm
instance encAtk : Enc LAtk := ⟨2, fun a => [a.users.v, a.known.v], fun _ => rfl, fun x u hu => by simp only [List.mem_cons, List.not_mem_nil, or_false] at hu; rcases hu with rfl | rfl <;> rfl⟩
instance layAtk : Lay LAtk := { encAtk with
  dflt := ⟨⟨none, 0, []⟩, ⟨none, 0, []⟩⟩
  inn := fun w a => Lay.inn w a.users ∧ Lay.inn w a.known
  mono := fun w w' x h hx => ⟨Lay.mono w w' x.users h hx.1, Lay.mono w w' x.known h hx.2⟩ }
structure AtkIn (M : Nat → Prop) (w : World) (x : LAtk) : Prop where
  u1 : x.users.xs.length ≤ x.users.cap
  u2 : x.users.cap ≤ maxLen
  k1 : x.known.xs.length ≤ x.known.cap
  k2 : x.known.cap ≤ maxLen
  u : Stable M w (SlF x.users.p (encL x.users.xs))
  k : Stable M w (LsF x.known.p 0 x.known.xs)
theorem AtkIn.of {w : World} {x : LAtk} (h : Lay.inn w x) : AtkIn (fun _ => False) w x := ⟨h.1.1, h.1.2.1, h.2.1, h.2.2.1, h.1.2.2.stable.imp fun _ h => h.1, h.2.2.2.stable.imp fun _ h => gl_ls h⟩
abbrev vAtk (x : LAtk) : Value := vA x.users.p x.users.xs.length x.users.cap x.known.p x.known.xs.length x.known.cap
theorem smallT_idem : ∀ (d : Nat) (t : Term), smallT d (smallT d t) = smallT d t
  | 0, .mk k u n s _ => by simp [smallT, List.take_take]
  | d + 1, .mk k u n s ks => by
    simp only [smallT, List.take_take, Nat.min_self, Term.mk.injEq, true_and]
    have e : ((ks.take 3).map (smallT d)).map (smallT d) = (ks.take 3).map (smallT d) := by
      rw [List.map_map]; exact List.map_congr_left fun t _ => smallT_idem d t
    have e2 : ((ks.take 3).map (smallT d)).take 3 = (ks.take 3).map (smallT d) := List.take_of_length_le (by simp; omega)
    first | rw [e, e2] | (rw [← List.map_take] at *; rw [e2, e])
theorem shortK_idem (K : List Term) : shortK (shortK K) = shortK K := by
  have h : (shortK K).take (shortN (shortK K).length) = shortK K := by
    refine List.take_of_length_le ?_
    simp only [shortK, shortN, List.length_map, List.length_take]
    split <;> split <;> omega
  conv => lhs; rw [shortK, h]
  rw [shortK, List.map_map]
  exact List.map_congr_left fun t _ => smallT_idem 6 t
theorem short_len (K : List Term) : (shortK K).length ≤ 501 := by
  simp only [shortK, shortN, List.length_map, List.length_take]
  split <;> omega
theorem sameLF_refl (K : List Term) : sameLF K K = true := (sameLF_iff _ _).2 rfl
theorem sameA_refl (us : List Int) (K : List Term) : sameA us us K K = true := by simp [sameA, sameLF_refl]
structure AV where
  pu : Option Addr
  cu : Nat
  pk : Option Addr
  ck : Nat
  ks : List LTerm
theorem chk_good {K : List Term} {us : List Int} (h : RightA K us) (t : Term) : chkF K [t] = if badF t then 150 else 0 := by
  have h500 : ¬ 500 < K.length := by have := h.1.1; omega
  have hK : K.any badF = false := any_bad.2 h.1.2.1
  rw [chkF, if_neg h500, List.any_append, hK]
  simp
theorem can_good {K : List Term} {us : List Int} (h : RightA K us) (t : Term) : canB K t = (!badF t && derB K t) := by
  rw [canB, chk_good h t]
  cases badF t <;> simp
theorem has7_c (xs : List LTerm) (t : LTerm) (p : Option Addr) (c : Nat) (w0 : World) (hl : xs.length ≤ 10000000) (hx : Stable (fun _ => False) w0 (LsF p 0 xs)) (ht : Stable (fun _ => False) w0 (LtF t)) :
    Ret Try.prog 32 [.slice p xs.length c, vL t] w0 (fun _ => False) fun v _ => v = .int .i64 (hasI (xs.map LTerm.t) t.t 0) := by
  refine enter Try.func32 rfl rfl (Wd.begin (fs := [LsF p 0 xs, LtF t]) (by simp; exact ⟨hx, ht⟩)) (fun a S => ?_)
  simp only [Try.ntmps32, List.length_cons, List.length_nil, Nat.reduceAdd, Nat.reduceSub, List.replicate_succ, List.replicate_zero, List.cons_append, List.nil_append] at S
  refine c_seq ?_; refine c_region ?_
  refine sa S ?_; clear S; intro b3 a w S
  refine sq S ?_; clear S; intro a S; refine wl_nil ?_; refine xtn ?_; (iterate 2 (refine c_seq ?_)); refine c_region ?_; refine sq S ?_; clear S; intro a S; refine wl_nil ?_; refine xtn ?_; refine c_block ?_
  refine c_forb1 S (fun (k : Nat) uu => [(4, uu 4), (0, .int .i64 (k : Nat)), (0, uu 6), (0, uu 7), (0, uu 8), (0, uu 9), (0, uu 10), (0, uu 11), (0, uu 12), (0, uu 13), (0, uu 14), (0, uu 15), (0, uu 16), (0, uu 17), (0, uu 18)]) (fun (k : Nat) => k ≤ xs.length ∧ hasI (xs.map LTerm.t) t.t 0 = hasI ((xs.drop k).map LTerm.t) t.t k) (fun (k : Nat) => xs.length - k) (0) ?_ S.uu ?_ ?_
  · exact ⟨Nat.zero_le _, by simp⟩
  · first | exact S | exact S.sub _ _
  · clear S; rintro k uu a w ⟨hk, hrel⟩ S
    (iterate 2 (refine c_seq ?_)); refine c_region ?_; (iterate 4 (refine sq S ?_; clear S; intro a S)); refine wl_nil ?_; refine xtn ?_
    refine c_cond S (fun h2 => ?_) (fun h2 => ?_)
    · refine c_skip ?_; refine xtn ?_; refine c_seq ?_; refine c_block ?_; refine c_seq ?_
      have hkl : k < xs.length := by have := of_decide_eq_true h2; omega
      have hK : KLt k xs.length := ⟨hkl⟩
      have hd := nth_drop hkl
      rw [hd, List.map_cons, hasI] at hrel
      refine c_drawD [(0, true), (1, true), (2, true), (3, true), (4, true), (5, false)] [] S ?_; clear S; intro w S
      (iterate 5 (refine dq S ?_; clear S; intro a S)); refine dl ?_; refine sc S ?_; clear S; intro a w S; refine de S ?_; refine dn ?_; refine xtn ?_
      refine c_cond S (fun h4 => ?_) (fun h4 => ?_)
      · refine c_seq ?_; refine c_region ?_; (iterate 2 (refine sq S ?_; clear S; intro a S)); refine wl_nil ?_; refine xtn ?_; refine c_ret ?_; refine xbr ?_; (iterate 2 (refine xtr ?_)); refine xbr ?_; refine xtr ?_
        refine end1 S (fun _ => ?_)
        rw [hrel, if_pos h4]
      · refine c_skip ?_; refine xbn ?_; refine xtn ?_; refine c_region ?_; (iterate 3 (refine sq S ?_; clear S; intro a S)); refine wl_nil ?_; refine xtn ?_
        rw [w64 ((k : Int) + 1) (by omega) (by omega)] at S
        exact ⟨k + 1, S.uu, ⟨hkl, by rw [hrel, if_neg (by rw [h4]; simp)]; simp⟩, S.sub _ _, by omega⟩
    · refine c_exit ?_; (iterate 2 (refine xte ?_)); refine xbe ?_; refine xtn ?_; refine c_seq ?_; refine c_region ?_; refine sq S ?_; clear S; intro a S; refine wl_nil ?_; refine xtn ?_; refine c_ret ?_
      refine end1 S (fun _ => ?_)
      have hke : k = xs.length := by have := of_decide_eq_false h2; omega
      rw [hrel, hke, List.drop_length]; rfl
theorem uf_less {M : Nat → Prop} {u0 w : World} (h : Stable M w (UF u0)) {x : LTerm} (hx : Stable (fun _ => False) u0 (LtF x)) : Stable M w (LtF x) := h.imp fun _ hw => hw x hx
theorem secret_st (u : Int) (w : World) : Stable (fun _ => False) w (LtF (secretL u)) := fun w1 _ => by show LtIn w1 (secretL u); simp [secretL, LtIn, LsIn]
abbrev blkOf (p : Option Addr) : Nat → Prop := fun k => ∃ ad, p = some ad ∧ k = ad.block
def WithC (u0 : World) (xs : List LTerm) (t : LTerm) (p : Option Addr) (w0 w' : World) (v : Value) : Prop := ∃ (p' : Option Addr) (c' : Nat) (ys : List LTerm), v = .slice p' ys.length c' ∧ w'.ownsRow 0 37 5 (.slice p' ys.length c') ys.length (encL ys) ∧
  (∀ ad, p' = some ad → (∃ ad', p = some ad' ∧ ad.block = ad'.block) ∨ w0.heap.size ≤ ad.block) ∧ WithR (xs.map LTerm.t) t.t (ys.map LTerm.t) ∧ ys.length + 1 ≤ xs.length + 2 * cnt t.t ∧ ∀ y ∈ ys, Stable (fun _ => False) u0 (LtF y)
theorem kin_lt (t : LTerm) (hG : Good t.t) (h : t.kind = 7 ∨ t.kind = 8) : 1 ≤ t.kids.length ∧ 1 ≤ t.user ∧ t.user ≤ 6 := by
  rw [t.t_eq] at hG
  cases ok_of_size hG with
  | mk hp _ =>
    have := plain_shape hp
    rw [List.length_map] at this
    omega
theorem kid_good {t : LTerm} (hG : Good t.t) {x : LTerm} (hx : x ∈ t.kids) : Good x.t := by
  rw [t.t_eq] at hG
  exact good_kid hG (List.mem_map.2 ⟨x, hx, rfl⟩)
theorem with_c (N : Nat) : ∀ (u0 : World) (xs : List LTerm) (t : LTerm) (p : Option Addr) (c : Nat) (w0 : World), cnt t.t ≤ N → Good t.t → xs.length + 2 * cnt t.t ≤ 5000000 → w0.ownsRow 0 37 5 (.slice p xs.length c) xs.length (encL xs) → (∀ x ∈ xs, Stable (fun _ => False) u0 (LtF x)) → Stable (fun _ => False) u0 (LtF t) → Stable (blkOf p) w0 (UF u0) →
    Ret Try.prog 48 [.slice p xs.length c, vL t] w0 (blkOf p) fun v w' => WithC u0 xs t p w0 w' v := by
  induction N with
  | zero => intro u0 xs t p c w0 hN; have := cnt_pos t.t; omega
  | succ N ih =>
  intro u0 xs t p c w0 hN hG hlen hown hxs ht hu
  have hcp := cnt_pos t.t
  have hck := cnt_kids t
  have htw := uf_less hu ht
  have hkl := LTerm.len_le ht
  have hkc : t.kids.length ≤ cntL (t.kids.map LTerm.t) := by have := cntL_len (t.kids.map LTerm.t); simpa using this
  refine enter Try.func48 rfl rfl (Wd.rowLent (fs := [UF u0, LtF t]) hown (by simp; exact ⟨hu, htw⟩)) (fun a S => ?_)
  simp only [Try.ntmps48, List.length_cons, List.length_nil, Nat.reduceAdd, Nat.reduceSub, List.replicate_succ, List.replicate_zero, List.cons_append, List.nil_append] at S
  refine c_seq ?_; refine c_region ?_
  refine sa S ?_; clear S; intro b3 a w S
  refine sq S ?_; clear S; intro a S; refine wl_nil ?_; refine xtn ?_; (iterate 2 (refine c_seq ?_)); refine c_region ?_; (iterate 2 (refine sq S ?_; clear S; intro a S))
  refine sr S (has7_c xs t p c _ (by omega) (ls_of_own (S.row p xs.length) (fun x hx => uf_less (S.mem.fact0 (UF u0)) (hxs x hx)) (fun _ _ h => h)) (S.mem.t0 _)) ?_; clear S; rintro _ a w rfl S
  refine sq S ?_; clear S; intro a S; refine wl_nil ?_; refine xtn ?_
  refine c_cond S (fun h1 => ?_) (fun h1 => ?_)
  · refine c_seq ?_; refine c_region ?_; (iterate 2 (refine sq S ?_; clear S; intro a S)); refine wl_nil ?_; refine xtn ?_; refine c_ret ?_; refine xtr ?_
    have hin : t.t ∈ xs.map LTerm.t := by
      rcases hasI_cases t.t (xs.map LTerm.t) 0 with ⟨h2, _⟩ | ⟨i, _, h3⟩
      · rw [h2] at h1; simp at h1
      · exact List.mem_of_getElem? h3
    have hrow := S.row p xs.length
    have hnew := S.rowNew p xs.length
    refine end1 S (fun _ => ?_)
    exact ⟨p, c, xs, rfl, hrow, hnew, WithR.found hin, by omega, hxs⟩
  · refine c_skip ?_; refine xtn ?_; refine c_seq ?_
    have hnin : t.t ∉ xs.map LTerm.t := fun hin => by
      obtain ⟨i, h2, _⟩ := hasI_in hin
      rw [h2] at h1
      simp at h1
    refine c_region ?_; (iterate 2 (refine sq S ?_; clear S; intro a S))
    refine sn S ?_; clear S; intro b13 a w S
    have e1 : encL xs ++ t.cells = encL (xs ++ [t]) := by rw [encL_append, encT_cells]
    refine sap S (by simp [maxLen]; omega) (by omega) ?_; clear S; rintro p3 c3 a w - S
    rw [show encL xs ++ [Value.int .i64 t.kind, Value.int .i64 t.user, Value.int .i64 t.num, str t.text, Value.slice t.p t.kids.length t.cap] = encL (xs ++ [t]) from e1, show xs.length + 1 = (xs ++ [t]).length from by simp] at S
    refine sq S ?_; clear S; intro a S; refine wl_nil ?_; refine xtn ?_
    refine c_mrge4 S (fun (p4 : Option Addr) (c4 : Nat) (ys : List LTerm) (ld : List Term) uu => [(0, .slice p4 ys.length c4), (14, uu 15), (0, uu 16), (0, uu 17), (0, uu 18), (0, uu 19), (0, uu 20), (0, uu 21), (0, uu 22), (0, uu 23), (0, uu 24), (0, uu 25), (0, uu 26), (0, uu 27)]) (fun (p4 : Option Addr) (c4 : Nat) (ys : List LTerm) (ld : List Term) => [Wk.box b3 37 t.cells, Wk.row 37 5 p4 ys.length c4 (encL ys)]) (fun (p4 : Option Addr) (c4 : Nat) (ys : List LTerm) (ld : List Term) => [UF u0, LtF t]) (fun (p4 : Option Addr) (c4 : Nat) (ys : List LTerm) (ld : List Term) => WayR (xs.map LTerm.t) t.t ld (ys.map LTerm.t) ∧ (∀ y ∈ kinT t.t, y ∈ ld ∨ y ∈ t.kids.map LTerm.t) ∧ ys.length + 1 ≤ xs.length + 2 + min 1 t.kids.length ∧ ∀ y ∈ ys, Stable (fun _ => False) u0 (LtF y)) ?_ ?_
    · refine c_seq ?_; refine c_region ?_; (iterate 4 (refine sq S ?_; clear S; intro a S)); (iterate 3 (refine gQ S ?_; clear S; intro a S)); refine sq S ?_; clear S; intro a S; refine wl_nil ?_; refine xtn ?_
      refine c_cond S (fun h4 => ?_) (fun h4 => ?_)
      · refine c_region ?_; (iterate 4 (refine sq S ?_; clear S; intro a S))
        have h78 : t.kind = 7 ∨ t.kind = 8 := by simpa using h4
        obtain ⟨k1, k2, k3⟩ := kin_lt t hG h78
        have hcs : cnt (secretL t.user).t = 1 := rfl
        have hgs : Good (secretL t.user).t := good_secret ⟨k2, k3⟩
        have hx' : ∀ x ∈ xs ++ [t], Stable (fun _ => False) u0 (LtF x) := fun x hx => by
          rcases List.mem_append.1 hx with hx | hx
          · exact hxs x hx
          · rw [List.mem_singleton.1 hx]; exact ht
        refine srg p3 (xs ++ [t]).length S (ih u0 (xs ++ [t]) (secretL t.user) p3 c3 w (by omega) hgs (by simp; omega) (S.row p3 (xs ++ [t]).length) hx' (secret_st _ _) (S.rowFact p3 (xs ++ [t]).length (Φ := UF u0) (by simp))) ?_; clear S; rintro _ a w ⟨p5, c5, ys, rfl, hown5, hnew5, hw5, hl5, hy5⟩ hS
        have S := hS _ hown5 hnew5
        clear hS
        refine sq S ?_; clear S; intro a S; refine wl_nil ?_; refine xtn ?_
        have h78 : t.kind = 7 ∨ t.kind = 8 := by simpa using h4
        obtain ⟨k1, k2, k3⟩ := kin_lt t hG h78
        have hb := WayR.begin hnin hG
        rw [← List.map_singleton, ← List.map_append] at hb
        refine ⟨p5, c5, ys, _, S.uu, ⟨hb.step hw5, fun y hy => ?_, by simp at hl5; omega, hy5⟩, S.sub _ _⟩
        rw [t.t_eq, kinT, if_pos h78] at hy
        rcases List.mem_cons.1 hy with rfl | hy
        · exact .inl (List.mem_append_right _ (List.mem_singleton.2 rfl))
        · exact .inr hy
      · refine c_skip ?_; refine xtn ?_
        have h78 : ¬ (t.kind = 7 ∨ t.kind = 8) := by simpa using h4
        have hb := WayR.begin hnin hG
        rw [← List.map_singleton, ← List.map_append] at hb
        refine ⟨p3, c3, xs ++ [t], _, S.uu, ⟨hb, fun y hy => ?_, by rw [List.length_append, List.length_singleton]; omega, fun x hx => ?_⟩, S.sub _ _⟩
        · rw [t.t_eq, kinT, if_neg h78] at hy
          exact .inr hy
        · rcases List.mem_append.1 hx with hx | hx
          · exact hxs x hx
          · rw [List.mem_singleton.1 hx]; exact ht
    · clear S; rintro p4 c4 ys ld uu a w ⟨hway, hkin, hyl, hys⟩ S
      (iterate 2 (refine c_seq ?_)); refine c_region ?_; refine sq S ?_; clear S; intro a S; refine wl_nil ?_; refine xtn ?_; refine c_block ?_
      refine c_fore4 S (fun (k : Nat) (p5 : Option Addr) (c5 : Nat) (zs : List LTerm) uu => [(0, .slice p5 zs.length c5), (4, .int .i64 (k : Nat)), (22, uu 28), (0, uu 29), (0, uu 30), (0, uu 31), (0, uu 32), (0, uu 33), (0, uu 34), (0, uu 35), (0, uu 36), (0, uu 37), (0, uu 38), (0, uu 39), (0, uu 40), (0, uu 41)]) (fun (k : Nat) (p5 : Option Addr) (c5 : Nat) (zs : List LTerm) => [Wk.box b3 37 t.cells, Wk.row 37 5 p5 zs.length c5 (encL zs)]) (fun (k : Nat) (p5 : Option Addr) (c5 : Nat) (zs : List LTerm) => [UF u0, LtF t]) (fun (k : Nat) (p5 : Option Addr) (c5 : Nat) (zs : List LTerm) => k ≤ t.kids.length ∧ WayR (xs.map LTerm.t) t.t (ld ++ (t.kids.take k).map LTerm.t) (zs.map LTerm.t) ∧ zs.length + k + 1 ≤ xs.length + 2 + min 1 t.kids.length + 2 * cntL ((t.kids.take k).map LTerm.t) ∧ ∀ y ∈ zs, Stable (fun _ => False) u0 (LtF y)) (fun (k : Nat) (p5 : Option Addr) (c5 : Nat) (zs : List LTerm) => t.kids.length - k) (0) (p4) (c4) (ys) ?_ S.uu ?_ ?_
      · exact ⟨Nat.zero_le _, by simpa using hway, by simp [cntL]; omega, hys⟩
      · first | exact S | exact S.sub _ _
      · clear S; rintro k p5 c5 zs uu a w ⟨hk, hwk, hzl, hzs⟩ S
        (iterate 2 (refine c_seq ?_)); refine c_region ?_; (iterate 5 (refine sq S ?_; clear S; intro a S)); refine wl_nil ?_; refine xtn ?_
        refine c_cond S (fun h7 => ?_) (fun h7 => ?_)
        · refine c_skip ?_; refine xtn ?_; refine c_seq ?_; refine c_block ?_
          have hkk : k < t.kids.length := by have := of_decide_eq_true h7; omega
          have hK : KLt k t.kids.length := ⟨hkk⟩
          have hmem := nth_mem hkk
          have hle := cntL_mem (List.mem_map.2 ⟨_, hmem, rfl⟩ : (nthL t.kids k).t ∈ t.kids.map LTerm.t)
          have hts := take_map_succ t.kids k hkk
          have hct : cntL ((t.kids.take (k + 1)).map LTerm.t) = cntL ((t.kids.take k).map LTerm.t) + cnt (nthL t.kids k).t := by rw [hts, cntL_append]; simp [cntL]
          have hct2 : cntL ((t.kids.take (k + 1)).map LTerm.t) ≤ cntL (t.kids.map LTerm.t) := by
            have := cntL_append ((t.kids.take (k + 1)).map LTerm.t) ((t.kids.drop (k + 1)).map LTerm.t)
            rw [← List.map_append, List.take_append_drop] at this
            omega
          refine c_region ?_; (iterate 6 (refine sq S ?_; clear S; intro a S))
          refine srg p5 zs.length S (ih u0 zs (nthL t.kids k) p5 c5 w (by omega) (kid_good hG hmem) (by omega) (S.row p5 zs.length) hzs (kid_st ht hmem) (S.rowFact p5 zs.length (Φ := UF u0) (by simp))) ?_; clear S; rintro _ a w ⟨p6, c6, vs, rfl, hown6, hnew6, hw6, hl6, hv6⟩ hS
          have S := hS _ hown6 hnew6
          clear hS
          refine sq S ?_; clear S; intro a S; refine wl_nil ?_; refine xbn ?_; refine xtn ?_; refine c_region ?_; (iterate 3 (refine sq S ?_; clear S; intro a S)); refine wl_nil ?_; refine xtn ?_
          rw [w64 ((k : Int) + 1) (by omega) (by omega)] at S
          exact ⟨k + 1, p6, c6, vs, S.uu, ⟨hkk, by rw [hts, ← List.append_assoc]; exact hwk.step hw6, by omega, hv6⟩, S.sub _ _, by omega⟩
        · refine c_exit ?_; (iterate 2 (refine xte ?_)); refine xbe ?_; refine xtn ?_; refine c_seq ?_; refine c_region ?_; (iterate 2 (refine sq S ?_; clear S; intro a S)); refine wl_nil ?_; refine xtn ?_; refine c_ret ?_
          have hke : k = t.kids.length := by have := of_decide_eq_false h7; omega
          subst hke
          rw [List.take_length] at hwk hzl
          have hrow := S.row p5 zs.length
          have hnew := S.rowNew p5 zs.length
          refine end1 S (fun _ => ?_)
          exact ⟨p5, c5, zs, rfl, hrow, hnew, hwk.done (fun y hy => by rw [List.mem_append]; exact hkin y hy), by omega, hzs⟩
theorem all7_c (xs : List LTerm) (cs : List Bool) (t : LTerm) (p q : Option Addr) (c n e : Nat) (w0 : World) (hl : xs.length ≤ 5000000) (hln : xs.length = n) (hcl : cs.length = n) (hn : (xs.map LTerm.t).Nodup) (hkin : ∀ y ∈ t.kids, y.t ∈ xs.map LTerm.t)
    (hx : Stable (fun _ => False) w0 (LsF p 0 xs)) (hc : Stable (fun _ => False) w0 (GlF q cs)) (ht : Stable (fun _ => False) w0 (LtF t)) :
    Ret Try.prog 49 [.slice p xs.length c, .slice q n e, vL t] w0 (fun _ => False) fun v _ => ∃ b, v = .bool b ∧ (b = true ↔ ∀ y ∈ t.kids, cnF (xs.map LTerm.t) cs y.t) := by
  subst hcl
  have hcl := hln.symm
  have hkl := LTerm.len_le ht
  refine enter Try.func49 rfl rfl (Wd.begin (fs := [LsF p 0 xs, GlF q cs, LtF t]) (by simp; exact ⟨hx, hc, ht⟩)) (fun a S => ?_)
  simp only [Try.ntmps49, List.length_cons, List.length_nil, Nat.reduceAdd, Nat.reduceSub, List.replicate_succ, List.replicate_zero, List.cons_append, List.nil_append] at S
  refine c_seq ?_; refine c_region ?_
  refine sa S ?_; clear S; intro b5 a w S
  refine sq S ?_; clear S; intro a S; refine wl_nil ?_; refine xtn ?_; (iterate 2 (refine c_seq ?_)); refine c_region ?_; refine sq S ?_; clear S; intro a S; refine wl_nil ?_; refine xtn ?_; refine c_block ?_
  refine c_forb1 S (fun (k : Nat) uu => [(6, uu 6), (0, .int .i64 (k : Nat)), (0, uu 8), (0, uu 9), (0, uu 10), (0, uu 11), (0, uu 12), (0, uu 13), (0, uu 14), (0, uu 15), (0, uu 16), (0, uu 17), (0, uu 18), (0, uu 19), (0, uu 20), (0, uu 21), (0, uu 22), (0, uu 23), (0, uu 24), (0, uu 25)]) (fun (k : Nat) => k ≤ t.kids.length ∧ ∀ j < k, cnF (xs.map LTerm.t) cs (nthL t.kids j).t) (fun (k : Nat) => t.kids.length - k) (0) ?_ S.uu ?_ ?_
  · exact ⟨Nat.zero_le _, fun j hj => absurd hj (Nat.not_lt_zero _)⟩
  · first | exact S | exact S.sub _ _
  · clear S; rintro k uu a w ⟨hk, hrel⟩ S
    (iterate 2 (refine c_seq ?_)); refine c_region ?_; (iterate 5 (refine sq S ?_; clear S; intro a S)); refine wl_nil ?_; refine xtn ?_
    refine c_cond S (fun h2 => ?_) (fun h2 => ?_)
    · refine c_skip ?_; refine xtn ?_; refine c_seq ?_; refine c_block ?_; refine c_seq ?_
      have hkk : k < t.kids.length := by have := of_decide_eq_true h2; omega
      have hK : KLt k t.kids.length := ⟨hkk⟩
      obtain ⟨i, hi, hxi⟩ := hasI_in (hkin _ (nth_mem hkk))
      have hil : i < xs.length := by have := (List.getElem?_eq_some_iff.1 hxi).1; simpa using this
      have hKi : KLt i cs.length := ⟨by omega⟩
      have hci : cs[i]? = some (nthG cs i) := nthG_get (by omega)
      refine c_region ?_; (iterate 7 (refine sq S ?_; clear S; intro a S))
      refine sr S (has7_c xs (nthL t.kids k) p c w (by omega) (S.mem.fact0 (LsF p 0 xs)) (S.mem.t0 _)) ?_; clear S; rintro _ a w rfl S
      rw [hi] at S
      (iterate 3 (refine sq S ?_; clear S; intro a S)); refine wl_nil ?_; refine xtn ?_
      refine c_cond S (fun h4 => ?_) (fun h4 => ?_)
      · refine c_seq ?_; refine c_region ?_; refine sq S ?_; clear S; intro a S; refine wl_nil ?_; refine xtn ?_; refine c_ret ?_; refine xbr ?_; (iterate 2 (refine xtr ?_)); refine xbr ?_; refine xtr ?_
        refine end1 S (fun _ => ⟨false, rfl, ⟨nofun, fun h => ?_⟩⟩)
        have := (cn_at hn hxi).1 (h _ (nth_mem hkk))
        rw [hci] at this
        injection this with this
        rw [this] at h4
        cases h4
      · refine c_skip ?_; refine xbn ?_; refine xtn ?_; refine c_region ?_; (iterate 3 (refine sq S ?_; clear S; intro a S)); refine wl_nil ?_; refine xtn ?_
        rw [w64 ((k : Int) + 1) (by omega) (by omega)] at S
        refine ⟨k + 1, S.uu, ⟨hkk, fun j hj => ?_⟩, S.sub _ _, by omega⟩
        by_cases e : j = k
        · subst e
          refine ⟨i, hxi, ?_⟩
          rw [hci]
          cases hb : nthG cs i with
          | true => rfl
          | false => rw [hb] at h4; cases h4
        · exact hrel j (by omega)
    · refine c_exit ?_; (iterate 2 (refine xte ?_)); refine xbe ?_; refine xtn ?_; refine c_seq ?_; refine c_region ?_; refine sq S ?_; clear S; intro a S; refine wl_nil ?_; refine xtn ?_; refine c_ret ?_
      have hke : k = t.kids.length := by have := of_decide_eq_false h2; omega
      refine end1 S (fun _ => ⟨true, rfl, fun _ y hy => ?_, fun _ => rfl⟩)
      obtain ⟨j, hj, rfl⟩ := List.mem_iff_getElem.1 hy
      have := hrel j (by omega)
      rw [show nthL t.kids j = t.kids[j] from by simp [nthL, hj]] at this
      exact this
end Go.Proofs.Ytibkkbknnfehlaa