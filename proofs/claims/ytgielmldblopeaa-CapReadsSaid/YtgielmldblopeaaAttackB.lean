/- Package attack: learn, Learn, Can. -/
import Derived.Test.YtgielmldblopeaaAttackA
namespace Go.Proofs.Ytgielmldblopeaa
open Go Go.Wk
set_option synthInstance.maxSize 100000
set_option synthInstance.maxHeartbeats 400000
set_option maxRecDepth 100000

theorem clonei_c (ys : List Int) (p : Option Addr) (n c : Nat) (w0 : World) (hn : ys.length = n) (hl : n ≤ 10000000) (hx : Stable (fun _ => False) w0 (SlF p (encL ys))) :
    Ret Try.prog 92 [.slice p n c] w0 (fun _ => False) fun v w' => ∃ p' c', v = .slice p' n c' ∧ w'.ownsRow 0 3 1 (.slice p' n c') n (encL ys) ∧ (∀ ad, p' = some ad → w0.heap.size ≤ ad.block) ∧ (p = none → p' = none ∧ c' = 0) := by
  refine enter Try.func92 rfl rfl (Wd.begin (fs := [SlF p (encL ys)]) (by simpa using hx)) (fun a S => ?_)
  simp only [Try.ntmps92, List.length_cons, List.length_nil, Nat.reduceAdd, Nat.reduceSub, List.replicate_succ, List.replicate_zero, List.cons_append, List.nil_append] at S
  refine c_seq ?_
  refine c_region ?_
  refine sq S ?_; clear S; intro a S
  refine wl_nil ?_
  refine xtn ?_
  iterate 2 (refine c_seq ?_)
  refine c_region ?_
  iterate 2 (refine sq S ?_; clear S; intro a S)
  refine wl_nil ?_
  refine xtn ?_
  refine c_cond S (fun h1 => ?_) (fun h1 => ?_)
  · refine c_seq ?_
    refine c_region ?_
    refine sq S ?_; clear S; intro a S
    refine wl_nil ?_
    refine xtn ?_
    refine c_ret ?_
    refine xtr ?_
    have hp : p = none := by simpa using h1
    have hx0 := hx.now.1 hp
    have hn0 : n = 0 := by
      have h1 := congrArg List.length hx0
      rw [encL_len] at h1
      have h2 : ys.length * 1 = 0 := h1
      omega
    subst hn0
    refine end1 S (fun _ => ?_)
    refine ⟨none, 0, rfl, ?_, (fun _ h => by cases h), fun _ => ⟨rfl, rfl⟩⟩
    rw [hx0]; exact World.ownsRow_nil _ _ _ _
  · refine c_skip ?_
    refine xtn ?_
    refine c_seq ?_
    refine c_region ?_
    refine sn S ?_; clear S; intro b5 a w S
    refine sq S ?_; clear S; intro a S
    replace S := S.boxRow b5 1 0 rfl (by omega)
    have hN : LenN ys n := ⟨hn⟩
    refine sap S (by simp [maxLen]; omega) (by omega) ?_; clear S; rintro p2 c2 a w - S
    rw [List.nil_append, Nat.zero_add] at S
    refine sq S ?_; clear S; intro a S
    refine wl_nil ?_
    refine xtn ?_
    refine c_ret ?_
    have hrow := S.row p2 n
    have hnew := S.rowNew p2 n
    refine end1 S (fun _ => ?_)
    exact ⟨p2, c2, rfl, hrow, fun ad h => (hnew ad h).elim (fun h => h.elim) id, fun h => by rw [h] at h1; simp at h1⟩
/-- each once, by name. -/
def ded : List (List UInt8) → List Term → List Term
  | _, [] => []
  | ns, t :: ts => if nameF t ∈ ns then ded ns ts else t :: ded (addN ns (nameF t)) ts
theorem ded_len : ∀ (ns : List (List UInt8)) (ts : List Term), (ded ns ts).length ≤ ts.length
  | _, [] => Nat.le_refl _
  | ns, t :: ts => by
    rw [ded]
    split
    · have := ded_len ns ts; simp; omega
    · have := ded_len (addN ns (nameF t)) ts; simp; omega
theorem learn_c (us : List Int) (ks ls : List LTerm) (pu pk pl : Option Addr) (cu ck cl : Nat) (M : Nat → Prop) (w0 : World) (hM : ∀ k, M k → k < w0.heap.size) (hul : us.length ≤ 1000000) (hkl : ks.length ≤ 1000) (hll : ls.length ≤ 1000)
    (hc : ∀ x ∈ ks ++ ls, cnt x.t ≤ 1200) (hu : Stable M w0 (SlF pu (encL us))) (hk : Stable M w0 (LsF pk 0 ks)) (hl : Stable M w0 (LsF pl 0 ls)) :
    Ret Try.prog 42 [vA pu us.length cu pk ks.length ck, .slice pl ls.length cl] w0 (fun _ => False) fun v w' => ∃ (e : Int) (pu' : Option Addr) (cu' : Nat) (pk' : Option Addr) (ck' : Nat) (us' : List Int) (ks' : List LTerm),
      v = .tuple ⟨[vA pu' us'.length cu' pk' ks'.length ck', .int .i64 e]⟩ ∧ Stable M w' (SlF pu' (encL us')) ∧ Stable M w' (LsF pk' 0 ks') ∧ (e = 0 ∨ e = 6) ∧ ((ded [] ((ks ++ ls).map LTerm.t)).length ≤ 500 → e = 0) ∧
      (e = 0 → us' = us ∧ ks'.map LTerm.t = ded [] ((ks ++ ls).map LTerm.t) ∧ ks'.length ≤ 500) ∧ (e ≠ 0 → us' = [] ∧ ks' = []) ∧ (pu = none → pu' = none ∧ cu' = 0) := by
  refine enter Try.func42 rfl rfl (Wd.beginM (M := M) (fs := [SlF pu (encL us), LsF pk 0 ks, LsF pl 0 ls]) hM (by simp; exact ⟨hu, hk, hl⟩)) (fun a S => ?_)
  simp only [Try.ntmps42, List.length_cons, List.length_nil, Nat.reduceAdd, Nat.reduceSub, List.replicate_succ, List.replicate_zero, List.cons_append, List.nil_append] at S
  refine c_seq ?_
  refine c_region ?_
  refine sa S ?_; clear S; intro b2 a w S
  refine sa S ?_; clear S; intro b4 a w S
  refine sq S ?_; clear S; intro a S
  refine wl_nil ?_
  refine xtn ?_
  refine c_seq ?_
  refine c_region ?_
  iterate 2 (refine sq S ?_; clear S; intro a S)
  refine srn S (clonei_c us pu us.length cu _ rfl (by omega) (S.mem.fact0 (SlF pu (encL us)))) ?_; clear S; rintro _ a w ⟨pu', cu', rfl, hown, hnew, hnone⟩ hS -
  have S := hS hown hnew
  clear hS
  refine sq S ?_; clear S; intro a S
  refine sa S ?_; clear S; intro b6 a w S
  refine sw S ?_; clear S; intro a w S
  refine wl_nil ?_
  refine xtn ?_
  refine c_seq ?_
  refine c_region ?_
  refine smm S ?_; clear S; intro bm a w S
  refine sq S ?_; clear S; intro a S
  refine wl_nil ?_
  refine xtn ?_
  iterate 2 (refine c_seq ?_)
  refine c_region ?_
  iterate 3 (refine sq S ?_; clear S; intro a S)
  refine sn S ?_; clear S; intro b18 a w S
  have hb := BoxF.stable (M := fun _ => False) (S.boxF b18) (fun h => h)
  refine srn S (concat_c ks ls pk pl ks.length ls.length ck cl b18 w rfl rfl (by omega) (by omega) (S.mem.fact0 (LsF pk 0 ks)) (S.mem.fact0 (LsF pl 0 ls)) hb) ?_; clear S hb; rintro _ a w ⟨p3, c3, rfl, hown, hnew⟩ hS -
  have S := hS hown hnew
  clear hS
  replace S := S.rowLs (fun x hx => by
    have h1 : Stable _ _ (LsF pk 0 ks) := S.wd.facts (LsF pk 0 ks) (by simp)
    have h2 : Stable _ _ (LsF pl 0 ls) := S.wd.facts (LsF pl 0 ls) (by simp)
    rcases List.mem_append.1 hx with hx | hx
    · exact kids_st h1.tl hx
    · exact kids_st h2.tl hx)
  obtain ⟨zs, hzs⟩ : ∃ zs, zs = ks ++ ls := ⟨_, rfl⟩
  rw [← List.length_append, ← hzs] at S
  iterate 2 (refine sq S ?_; clear S; intro a S)
  refine wl_nil ?_
  refine xtn ?_
  refine c_block ?_
  have hzl : zs.length ≤ 2000 := by rw [hzs, List.length_append]; omega
  rw [← hzs] at hc ⊢
  replace S := S.addNil 35 5
  refine c_loop (ι := Nat) (fun k a w => ∃ os pk' ck' ns, k ≤ zs.length ∧ os.length ≤ k ∧ os.map LTerm.t ++ ded ns ((zs.drop k).map LTerm.t) = ded [] (zs.map LTerm.t) ∧ ∃ uu : Nat → Value,  St w0 (fun _ => False) [] a w (uu 0 :: uu 1 :: (.pointer (some ⟨b2, 0, none⟩)) :: uu 3 :: (.pointer (some ⟨b4, 0, none⟩)) :: (.int .i64 0) :: (.pointer (some ⟨b6, 0, none⟩)) :: (.map (some bm)) :: uu 8 :: uu 9 :: uu 10 :: uu 11 :: uu 12 :: uu 13 :: uu 14 :: uu 15 :: uu 16 :: uu 17 :: uu 18 :: (.slice p3 zs.length c3) :: (.int .i64 zs.length) :: (.int .i64 (k : Nat)) :: uu 22 :: uu 23 :: uu 24 :: uu 25 :: uu 26 :: uu 27 :: uu 28 :: uu 29 :: uu 30 :: uu 31 :: uu 32 :: uu 33 :: uu 34 :: uu 35 :: uu 36 :: uu 37 :: uu 38 :: uu 39 :: uu 40 :: uu 41 :: [])
    [Wk.row 35 5 pk' os.length ck' (encL os), mp bm (kvT ns), Wk.box b6 25 [.slice pu' us.length cu', .slice pk' os.length ck'], Wk.row 3 1 pu' us.length cu' (encL us), Wk.box b4 25 [.slice none 0 0, .slice none 0 0], ext M] [AllL os, LsF p3 0 zs]) (fun k => zs.length - k) 0 ?_ ?_
  · refine ⟨[], none, 0, [], Nat.zero_le _, Nat.le_refl _, rfl, S.uu, ?_⟩
    replace S := S.add (Φ := AllL []) (fun _ _ x hx => by cases hx)
    exact S.sub [Wk.row 35 5 none 0 0 [], mp bm [], Wk.box b6 25 [.slice pu' us.length cu', .slice none 0 0], Wk.row 3 1 pu' us.length cu' (encL us), Wk.box b4 25 [.slice none 0 0, .slice none 0 0], ext M] [AllL [], LsF p3 0 zs]
  · clear S
    rintro k a w ⟨os, pk', ck', ns, hk, hok, hD, uu, S⟩
    refine c_seq ?_
    refine c_region ?_
    refine sq S ?_; clear S; intro a S
    refine wl_nil ?_
    refine xtn ?_
    refine c_seq ?_
    refine c_cond S (fun h4 => ?_) (fun h4 => ?_)
    · refine c_skip ?_
      refine xtn ?_
      refine c_seq ?_
      refine c_block ?_
      refine c_seq ?_
      have hkl2 : k < zs.length := by simp at h4; omega
      have hK : KLt k zs.length := ⟨hkl2⟩
      rw [nth_drop hkl2, List.map_cons, ded] at hD
      refine c_region ?_
      iterate 2 (refine sq S ?_; clear S; intro a S)
      refine sa S ?_; clear S; intro b9 a w S
      refine sw S ?_; clear S; intro a w S
      refine wl_nil ?_
      refine xtn ?_
      refine c_seq ?_
      refine c_region ?_
      iterate 2 (refine sq S ?_; clear S; intro a S)
      refine sri (mp bm (kvT ns)) S (bput_c (nthL zs k) bm ns w (S.wd.held _ (by simp)) ((S.t (nthL zs k)).less (fun x _ hx => ⟨mp bm (kvT ns), by simp, hx⟩))) rfl ?_; clear S; rintro _ a w ⟨rfl, hm⟩ hS
      have S := hS (mp bm (kvT (addN ns (nameF (nthL zs k).t)))) _ inferInstance hm (fun k hk => .inl hk) (mp_lt hm) (mp_loc _ _)
      clear hS
      refine wl_nil ?_
      refine xtn ?_
      refine c_cond S (fun h6 => ?_) (fun h6 => ?_)
      · refine c_drawT (.q 0 (.q 2 (.b2 1 3 (.l 3 (.l 4 (.l 5 (.q 6 (.l 7 (.e)))))) (.b2 1 4 (.l 4 (.l 5 (.q 6 (.l 7 (.e))))) (.l 1 (.l 5 (.q 6 (.l 7 (.e))))))))) [Wk.box b9 35 (nthL zs k).cells] S
          (fun a w => ∃ os' pk' ck', os'.length ≤ k + 1 ∧ os'.map LTerm.t = os.map LTerm.t ++ [(nthL zs k).t] ∧ ∃ uu : Nat → Value,  St w0 (fun _ => False) [] a w (uu 0 :: uu 1 :: (.pointer (some ⟨b2, 0, none⟩)) :: uu 3 :: (.pointer (some ⟨b4, 0, none⟩)) :: (.int .i64 0) :: (.pointer (some ⟨b6, 0, none⟩)) :: (.map (some bm)) :: uu 8 :: uu 9 :: uu 10 :: uu 11 :: uu 12 :: uu 13 :: uu 14 :: uu 15 :: uu 16 :: uu 17 :: uu 18 :: (.slice p3 zs.length c3) :: (.int .i64 zs.length) :: (.int .i64 (k : Nat)) :: uu 22 :: uu 23 :: uu 24 :: uu 25 :: uu 26 :: uu 27 :: uu 28 :: uu 29 :: uu 30 :: uu 31 :: uu 32 :: uu 33 :: uu 34 :: uu 35 :: uu 36 :: uu 37 :: uu 38 :: uu 39 :: uu 40 :: uu 41 :: [])
            [Wk.row 35 5 pk' os'.length ck' (encL os'), mp bm (kvT (addN ns (nameF (nthL zs k).t))), Wk.box b6 25 [.slice pu' us.length cu', .slice pk' os'.length ck'], Wk.row 3 1 pu' us.length cu' (encL us), Wk.box b4 25 [.slice none 0 0, .slice none 0 0], ext M] [AllL os', LsF p3 0 zs]) ?_ ?_
        · intro w S
          iterate 2 (refine tq S ?_; clear S; intro a S)
          refine tb2 ?_ ?_
          · refine sq S ?_; clear S; intro a S
            refine te S ?_
            refine tl ?_
            refine sr S (copied_c (nthL zs k) _ w (hc _ (nth_mem hkl2)) (foots_lt S) (S.t (nthL zs k))) ?_; clear S; rintro _ a w ⟨r, rfl, hr, hrf⟩ S
            replace S := S.add hrf
            refine te S ?_
            refine tl ?_
            refine sn S ?_; clear S; intro b32 a w S
            refine te S ?_
            refine tl ?_
            refine sap S (by simp [maxLen]; omega) (by omega) ?_; clear S; rintro p7 c7 a w - S
            rw [show encL os ++ r.cells = encL (os ++ [r]) from by rw [encL_append os [r], encT_cells], show os.length + 1 = (os ++ [r]).length from by simp] at S
            refine te S ?_
            refine tq S ?_; clear S; intro a S
            refine tl ?_
            refine sw S ?_; clear S; intro a w S
            refine te S ?_
            refine tn ?_
            refine ⟨os ++ [r], p7, c7, by simp; omega, by rw [List.map_append, List.map_singleton, hr], S.uu, ?_⟩
            have h1 : Stable _ _ (AllL os) := S.wd.facts (AllL os) (by simp)
            have h2 := S.t r
            replace S := S.add (Φ := AllL (os ++ [r])) (fun w' hw' x hx => by
              rcases List.mem_append.1 hx with h | h
              · exact h1 w' hw' x h
              · rw [List.mem_singleton.1 h]; exact h2 w' hw')
            exact S.sub _ _
          · refine sr S (copied_c (nthL zs k) _ w (hc _ (nth_mem hkl2)) (foots_lt S) (S.t (nthL zs k))) ?_; clear S; rintro _ a w ⟨r, rfl, hr, hrf⟩ S
            replace S := S.add hrf
            refine te S ?_
            refine tb2 ?_ ?_
            · refine sq S ?_; clear S; intro a S
              refine te S ?_
              refine tl ?_
              refine sn S ?_; clear S; intro b32 a w S
              refine te S ?_
              refine tl ?_
              refine sap S (by simp [maxLen]; omega) (by omega) ?_; clear S; rintro p7 c7 a w - S
              rw [show encL os ++ r.cells = encL (os ++ [r]) from by rw [encL_append os [r], encT_cells], show os.length + 1 = (os ++ [r]).length from by simp] at S
              refine te S ?_
              refine tq S ?_; clear S; intro a S
              refine tl ?_
              refine sw S ?_; clear S; intro a w S
              refine te S ?_
              refine tn ?_
              refine ⟨os ++ [r], p7, c7, by simp; omega, by rw [List.map_append, List.map_singleton, hr], S.uu, ?_⟩
              have h1 : Stable _ _ (AllL os) := S.wd.facts (AllL os) (by simp)
              have h2 := S.t r
              replace S := S.add (Φ := AllL (os ++ [r])) (fun w' hw' x hx => by
                rcases List.mem_append.1 hx with h | h
                · exact h1 w' hw' x h
                · rw [List.mem_singleton.1 h]; exact h2 w' hw')
              exact S.sub _ _
            · refine sn S ?_; clear S; intro b32 a w S
              refine te S ?_
              refine tl ?_
              refine sq S ?_; clear S; intro a S
              refine te S ?_
              refine tl ?_
              refine sap S (by simp [maxLen]; omega) (by omega) ?_; clear S; rintro p7 c7 a w - S
              rw [show encL os ++ r.cells = encL (os ++ [r]) from by rw [encL_append os [r], encT_cells], show os.length + 1 = (os ++ [r]).length from by simp] at S
              refine te S ?_
              refine tq S ?_; clear S; intro a S
              refine tl ?_
              refine sw S ?_; clear S; intro a w S
              refine te S ?_
              refine tn ?_
              refine ⟨os ++ [r], p7, c7, by simp; omega, by rw [List.map_append, List.map_singleton, hr], S.uu, ?_⟩
              have h1 : Stable _ _ (AllL os) := S.wd.facts (AllL os) (by simp)
              have h2 := S.t r
              replace S := S.add (Φ := AllL (os ++ [r])) (fun w' hw' x hx => by
                rcases List.mem_append.1 hx with h | h
                · exact h1 w' hw' x h
                · rw [List.mem_singleton.1 h]; exact h2 w' hw')
              exact S.sub _ _
        rintro a w ⟨os', pk2, ck2, hol', hom', uu, S⟩
        refine xbn ?_
        refine xtn ?_
        refine c_region ?_
        iterate 2 (refine sq S ?_; clear S; intro a S)
        refine wl_nil ?_
        refine xtn ?_
        rw [if_neg (by simpa using h6)] at hD
        rw [w64 ((k : Int) + 1) (by omega) (by omega)] at S
        exact ⟨k + 1, ⟨os', pk2, ck2, _, hkl2, hol', by rw [hom', List.append_assoc]; exact hD, S.uu, S.sub _ _⟩, by omega⟩
      · refine c_skip ?_
        refine xbn ?_
        refine xtn ?_
        refine c_region ?_
        iterate 2 (refine sq S ?_; clear S; intro a S)
        refine wl_nil ?_
        refine xtn ?_
        have hin : nameF (nthL zs k).t ∈ ns := by simpa using h6
        rw [if_pos hin] at hD
        rw [show addN ns (nameF (nthL zs k).t) = ns from by rw [addN, if_pos hin]] at S
        rw [w64 ((k : Int) + 1) (by omega) (by omega)] at S
        exact ⟨k + 1, ⟨os, pk', ck', _, hkl2, by omega, hD, S.uu, S.sub _ _⟩, by omega⟩
    · refine c_exit ?_
      iterate 2 (refine xte ?_)
      refine xbe ?_
      refine xtn ?_
      iterate 2 (refine c_seq ?_)
      rw [List.drop_of_length_le (by simp at h4; omega), List.map_nil, ded, List.append_nil] at hD
      refine c_region ?_
      iterate 4 (refine sq S ?_; clear S; intro a S)
      refine wl_nil ?_
      refine xtn ?_
      refine c_cond S (fun h9 => ?_) (fun h9 => ?_)
      · refine c_seq ?_
        refine c_region ?_
        refine sq S ?_; clear S; intro a S
        refine sw S ?_; clear S; intro a w S
        refine sq S ?_; clear S; intro a S
        refine wl_nil ?_
        refine xtn ?_
        refine c_ret ?_
        refine xtr ?_
        have h9' : 500 < os.length := by simp at h9; omega
        refine end2 S (fun _ => ?_)
        refine ⟨6, none, 0, none, 0, [], [], rfl, fun w _ => SlF.nil, fun w _ => by simp [LsF, LsIn], .inr rfl, fun h => ?_, fun h => by omega, fun _ => ⟨rfl, rfl⟩, fun _ => ⟨rfl, rfl⟩⟩
        rw [← hD, List.length_map] at h; omega
      · refine c_skip ?_
        refine xtn ?_
        refine c_seq ?_
        refine c_region ?_
        refine sq S ?_; clear S; intro a S
        refine sw S ?_; clear S; intro a w S
        refine sq S ?_; clear S; intro a S
        refine wl_nil ?_
        refine xtn ?_
        refine c_ret ?_
        have h9' : os.length ≤ 500 := by simp at h9; omega
        have hrow := S.row pk' os.length
        have hnew := S.rowNew pk' os.length
        have hrowu := S.row pu' us.length
        have hnewu := S.rowNew pu' us.length
        have hall := S.laterFact (Φ := AllL os) (by simp)
        refine end2 S (fun _ => ?_)
        exact ⟨0, pu', cu', pk', ck', us, os, rfl, SlF.stable (own_sl hrowu) (fun ad h hm => (hnewu ad h).elim id (fun h2 => by have := hM _ hm; omega)),
          ls_of_own hrow (fun x hx => AllL.get hall hx) (fun ad h hm => (hnew ad h).elim id (fun h2 => by have := hM _ hm; omega)), .inl rfl, fun _ => rfl, fun _ => ⟨rfl, hD, h9'⟩, fun h => absurd rfl h, hnone⟩
theorem good_cnt {t : Term} (h : badF t = false) : cnt t ≤ 1200 := good_le (good_check.1 (by simpa [badF] using h))
theorem badF_iff {t : Term} : badF t = false ↔ Good t := by unfold badF; rw [← good_check]; simp
theorem any_bad {ts : List Term} : ts.any badF = false ↔ ∀ t ∈ ts, Good t := by
  rw [List.any_eq_false]
  exact ⟨fun h t ht => badF_iff.1 (by simpa using h t ht), fun h t ht => by simpa using badF_iff.2 (h t ht)⟩
theorem Learn_c (us : List Int) (ks ls : List LTerm) (pu pk pl : Option Addr) (cu ck cl : Nat) (M : Nat → Prop) (w0 : World) (hM : ∀ k, M k → k < w0.heap.size) (hul : us.length ≤ 1000000) (hkl : ks.length ≤ 1000) (hll : ls.length ≤ 1000)
    (hu : Stable M w0 (SlF pu (encL us))) (hk : Stable M w0 (LsF pk 0 ks)) (hl : Stable M w0 (LsF pl 0 ls)) :
    Ret Try.prog 13 [vA pu us.length cu pk ks.length ck, .slice pl ls.length cl] w0 (fun _ => False) fun v w' => ∃ (e : Int) (pu' : Option Addr) (cu' : Nat) (pk' : Option Addr) (ck' : Nat) (us' : List Int) (ks' : List LTerm),
      v = .tuple ⟨[vA pu' us'.length cu' pk' ks'.length ck', .int .i64 e]⟩ ∧ Stable M w' (SlF pu' (encL us')) ∧ Stable M w' (LsF pk' 0 ks') ∧
      (RightA (ks.map LTerm.t) us → (∀ t ∈ ls.map LTerm.t, Good t) → (e = 0 ∨ e = 6) ∧ ((ded [] ((ks ++ ls).map LTerm.t)).length ≤ 500 → e = 0)) ∧
      (e = 0 → RightA (ks.map LTerm.t) us ∧ (∀ t ∈ ls.map LTerm.t, Good t) ∧ us' = us ∧ ks'.map LTerm.t = ded [] ((ks ++ ls).map LTerm.t) ∧ ks'.length ≤ 500) ∧ (e ≠ 0 → us' = [] ∧ ks' = []) ∧ (pu = none → pu' = none ∧ cu' = 0) := by
  refine enter Try.func13 rfl rfl (Wd.beginM (M := M) (fs := [SlF pu (encL us), LsF pk 0 ks, LsF pl 0 ls]) hM (by simp; exact ⟨hu, hk, hl⟩)) (fun a S => ?_)
  simp only [Try.ntmps13, List.length_cons, List.length_nil, Nat.reduceAdd, Nat.reduceSub, List.replicate_succ, List.replicate_zero, List.cons_append, List.nil_append] at S
  refine c_seq ?_
  refine c_region ?_
  refine sa S ?_; clear S; intro b2 a w S
  refine sa S ?_; clear S; intro b4 a w S
  refine sq S ?_; clear S; intro a S
  refine wl_nil ?_
  refine xtn ?_
  iterate 2 (refine c_seq ?_)
  refine c_region ?_
  refine sq S ?_; clear S; intro a S
  refine sr S (acheck_c us ks pu pk cu ck _ hul (by omega) (S.mem.fact0 (SlF pu (encL us))) (S.mem.fact0 (LsF pk 0 ks))) ?_; clear S; rintro _ a w rfl S
  refine sq S ?_; clear S; intro a S
  refine wl_nil ?_
  refine xtn ?_
  refine c_seq ?_
  refine c_region ?_
  iterate 2 (refine sq S ?_; clear S; intro a S)
  refine wl_nil ?_
  refine xtn ?_
  refine c_cond S (fun h2 => ?_) (fun h2 => ?_)
  · refine c_seq ?_
    refine c_region ?_
    iterate 2 (refine sq S ?_; clear S; intro a S)
    refine sw S ?_; clear S; intro a w S
    refine sq S ?_; clear S; intro a S
    refine wl_nil ?_
    refine xtn ?_
    refine c_ret ?_
    refine xtr ?_
    have hn : ¬ RightA (ks.map LTerm.t) us := fun h => by rw [chkA_pos h] at h2; simp at h2
    refine end2 S (fun _ => ?_)
    exact ⟨_, none, 0, none, 0, [], [], rfl, fun w _ => SlF.nil, fun w _ => by simp [LsF, LsIn], fun h => absurd h hn, fun h => absurd (chkA_zero.1 h) hn, fun _ => ⟨rfl, rfl⟩, fun _ => ⟨rfl, rfl⟩⟩
  · refine c_skip ?_
    refine xtn ?_
    iterate 2 (refine c_seq ?_)
    have hR : RightA (ks.map LTerm.t) us := chkA_zero.1 (by simpa using h2)
    refine c_region ?_
    refine sq S ?_; clear S; intro a S
    refine sr S (aright_c ls pl cl w (by omega) (S.mem.fact0 (LsF pl 0 ls))) ?_; clear S; rintro _ a w rfl S
    refine sq S ?_; clear S; intro a S
    refine wl_nil ?_
    refine xtn ?_
    refine c_seq ?_
    refine c_region ?_
    iterate 2 (refine sq S ?_; clear S; intro a S)
    refine wl_nil ?_
    refine xtn ?_
    refine c_cond S (fun h5 => ?_) (fun h5 => ?_)
    · refine c_seq ?_
      refine c_region ?_
      iterate 2 (refine sq S ?_; clear S; intro a S)
      refine sw S ?_; clear S; intro a w S
      refine sq S ?_; clear S; intro a S
      refine wl_nil ?_
      refine xtn ?_
      refine c_ret ?_
      refine xtr ?_
      have hb : (ls.map LTerm.t).any badF = true := by
        cases hq : (ls.map LTerm.t).any badF with
        | true => rfl
        | false => rw [hq] at h5; simp at h5
      rw [if_pos hb] at S
      have hn : ¬ ∀ t ∈ ls.map LTerm.t, Good t := fun h => by rw [any_bad.2 h] at hb; cases hb
      refine end2 S (fun _ => ?_)
      exact ⟨150, none, 0, none, 0, [], [], rfl, fun w _ => SlF.nil, fun w _ => by simp [LsF, LsIn], fun _ h => absurd h hn, fun h => by omega, fun _ => ⟨rfl, rfl⟩, fun _ => ⟨rfl, rfl⟩⟩
    · refine c_skip ?_
      refine xtn ?_
      refine c_seq ?_
      have hb : (ls.map LTerm.t).any badF = false := by
        cases hq : (ls.map LTerm.t).any badF with
        | false => rfl
        | true => rw [hq] at h5; simp at h5
      have hG := any_bad.1 hb
      refine c_region ?_
      iterate 2 (refine sq S ?_; clear S; intro a S)
      have hc : ∀ x ∈ ks ++ ls, cnt x.t ≤ 1200 := fun x hx => by
        rcases List.mem_append.1 hx with hx | hx
        · exact good_le (hR.1.2.1 _ (List.mem_map.2 ⟨x, hx, rfl⟩))
        · exact good_le (hG _ (List.mem_map.2 ⟨x, hx, rfl⟩))
      refine sr S (learn_c us ks ls pu pk pl cu ck cl _ w (foots_lt S) hul hkl hll hc (S.wd.facts (SlF pu (encL us)) (by simp)) (S.wd.facts (LsF pk 0 ks) (by simp)) (S.wd.facts (LsF pl 0 ls) (by simp))) ?_; clear S; rintro _ a w ⟨e, pu', cu', pk', ck', us', ks', rfl, hu', hk', he1, he2, he3, he4, he5⟩ S
      replace S := (S.add hu').add hk'
      iterate 2 (refine sq S ?_; clear S; intro a S)
      refine sw S ?_; clear S; intro a w S
      refine sq S ?_; clear S; intro a S
      refine wl_nil ?_
      refine xtn ?_
      refine c_ret ?_
      have h1 := S.laterFact (Φ := SlF pu' (encL us')) (by simp)
      have h2 := S.laterFact (Φ := LsF pk' 0 ks') (by simp)
      refine end2 S (fun _ => ?_)
      exact ⟨e, pu', cu', pk', ck', us', ks', rfl, h1, h2, fun _ _ => ⟨he1, he2⟩, fun h => ⟨hR, hG, he3 h⟩, he4, he5⟩
theorem acan_c (us : List Int) (ks : List LTerm) (t : LTerm) (pu pk : Option Addr) (cu ck : Nat) (w0 : World) (hul : us.length ≤ 1000000) (hkl0 : ks.length ≤ 1000000) (hu : Stable (fun _ => False) w0 (SlF pu (encL us))) (hk : Stable (fun _ => False) w0 (LsF pk 0 ks)) (ht : Stable (fun _ => False) w0 (LtF t)) :
    Ret Try.prog 14 [vA pu us.length cu pk ks.length ck, vL t] w0 (fun _ => False) fun v _ => (RightA (ks.map LTerm.t) us → v = .tuple ⟨[.bool (canB (ks.map LTerm.t) t.t), .int .i64 (chkF (ks.map LTerm.t) [t.t])]⟩) ∧ (¬ RightA (ks.map LTerm.t) us → v = .tuple ⟨[.bool false, .int .i64 320]⟩) := by
  refine enter Try.func14 rfl rfl (Wd.begin (fs := [SlF pu (encL us), LsF pk 0 ks, LtF t]) (by simp; exact ⟨hu, hk, ht⟩)) (fun a S => ?_)
  simp only [Try.ntmps14, List.length_cons, List.length_nil, Nat.reduceAdd, Nat.reduceSub, List.replicate_succ, List.replicate_zero, List.cons_append, List.nil_append] at S
  refine c_seq ?_
  refine c_region ?_
  refine sa S ?_; clear S; intro b2 a w S
  refine sa S ?_; clear S; intro b3 a w S
  iterate 2 (refine sq S ?_; clear S; intro a S)
  refine wl_nil ?_
  refine xtn ?_
  iterate 2 (refine c_seq ?_)
  refine c_region ?_
  refine sq S ?_; clear S; intro a S
  refine sr S (acheck_c us ks pu pk cu ck _ hul (by omega) (S.mem.fact0 (SlF pu (encL us))) (S.mem.fact0 (LsF pk 0 ks))) ?_; clear S; rintro _ a w rfl S
  refine sq S ?_; clear S; intro a S
  refine wl_nil ?_
  refine xtn ?_
  refine c_seq ?_
  refine c_region ?_
  iterate 2 (refine sq S ?_; clear S; intro a S)
  refine wl_nil ?_
  refine xtn ?_
  refine c_cond S (fun h2 => ?_) (fun h2 => ?_)
  · refine c_seq ?_
    refine c_region ?_
    iterate 3 (refine sq S ?_; clear S; intro a S)
    refine wl_nil ?_
    refine xtn ?_
    refine c_ret ?_
    refine xtr ?_
    have hn : ¬ RightA (ks.map LTerm.t) us := fun h => by rw [chkA_pos h] at h2; simp at h2
    rw [chkA_neg hn] at S
    refine end2 S (fun _ => ?_)
    exact ⟨fun h => absurd h hn, fun _ => rfl⟩
  · refine c_skip ?_
    refine xtn ?_
    refine c_seq ?_
    refine c_region ?_
    iterate 3 (refine sq S ?_; clear S; intro a S)
    have hR : RightA (ks.map LTerm.t) us := chkA_zero.1 (by simpa using h2)
    refine sr S (can_cl ks t pk ck w (S.mem.fact0 (LsF pk 0 ks)) (S.mem.t0 t)) ?_; clear S; rintro _ a w rfl S
    iterate 4 (refine sq S ?_; clear S; intro a S)
    refine wl_nil ?_
    refine xtn ?_
    refine c_ret ?_
    refine end2 S (fun _ => ?_)
    exact ⟨fun _ => rfl, fun h => absurd hR h⟩
end Go.Proofs.Ytgielmldblopeaa
