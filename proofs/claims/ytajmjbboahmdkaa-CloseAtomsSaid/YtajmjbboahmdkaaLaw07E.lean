/- The law CloseAtoms. -/
import Derived.Test.YtajmjbboahmdkaaLaw07D
namespace Go.Proofs.Ytajmjbboahmdkaa
open Go Go.Wk
set_option synthInstance.maxSize 100000
set_option synthInstance.maxHeartbeats 400000
set_option maxRecDepth 100000

theorem idxQ_cases (q : LTerm → Bool) : ∀ (xs : List LTerm) (o : Nat), (idxQ q xs o = -1 ∧ ∀ x ∈ xs, q x = false) ∨ ∃ i, idxQ q xs o = ((o + i : Nat) : Int) ∧ i < xs.length ∧ q (nthL xs i) = true ∧ ∀ x ∈ xs.take i, q x = false
  | [], o => .inl ⟨rfl, by simp⟩
  | x :: xs, o => by
    cases hq : q x with
    | true => exact .inr ⟨0, by rw [idxQ, if_pos hq]; rfl, by simp, by simpa [nthL] using hq, by simp⟩
    | false =>
      rw [idxQ, if_neg (by simp [hq]), show (o : Int) + 1 = ((o + 1 : Nat) : Int) from rfl]
      rcases idxQ_cases q xs (o + 1) with ⟨h1, h2⟩ | ⟨i, h1, h2, h3, h4⟩
      · exact .inl ⟨h1, by simp only [List.mem_cons, forall_eq_or_imp]; exact ⟨hq, h2⟩⟩
      · refine .inr ⟨i + 1, by rw [h1]; congr 1; omega, by simp; omega, by simpa [nthL] using h3, ?_⟩
        simp only [List.take_succ_cons, List.mem_cons, forall_eq_or_imp]; exact ⟨hq, h4⟩
theorem deletef_c (F : Nat) [EntF Try.prog F] (q : LTerm → Bool) (xs : List LTerm) (p : Option Addr) (n c : Nat) (w0 : World) (hn : xs.length = n) (hl : n ≤ 10000000) (hown : w0.ownsRow 0 37 5 (.slice p n c) n (encL xs))
    (hx : ∀ x ∈ xs, Stable (fun k => ∃ ad, p = some ad ∧ k = ad.block) w0 (LtF x)) (hF : ∀ (x : LTerm) (w : World), Ret Try.prog F [vL x] w (fun _ => False) fun v _ => v = .bool (q x)) :
    Ret Try.prog 74 [.slice p n c, .func (.func F) #[] #[]] w0 (fun k => ∃ ad, p = some ad ∧ k = ad.block) fun v w' =>
      ∃ zs, zs = xs.filter (fun x => !q x) ∧ v = .slice p zs.length c ∧ w'.ownsRow 0 37 5 (.slice p zs.length c) zs.length (encL zs) := by
  have hnc := own_le hown
  refine enter Try.func74 rfl rfl (Wd.rowLent (fs := [AllL xs]) hown (by simpa using AllL.stable hx)) (fun a S => ?_)
  simp only [Try.ntmps74, List.length_cons, List.length_nil, Nat.reduceAdd, Nat.reduceSub, List.replicate_succ, List.replicate_zero, List.cons_append, List.nil_append] at S
  refine c_seq ?_
  refine c_region ?_
  refine sq S ?_; clear S; intro a S
  refine wl_nil ?_
  refine xtn ?_
  refine c_seq ?_
  refine c_region ?_
  iterate 2 (refine sq S ?_; clear S; intro a S)
  have hls := ls_of_own (S.row p n) (fun x hx => (AllL.get (S.mem.fact0 (AllL xs)) hx)) (fun _ _ h => h)
  refine sr S (index_c F [] q xs p n c _ hn (by omega) hls (fun x _ w _ => hF x w)) ?_; clear S hls; rintro _ a w rfl S
  refine sq S ?_; clear S; intro a S
  refine wl_nil ?_
  refine xtn ?_
  iterate 2 (refine c_seq ?_)
  refine c_region ?_
  iterate 2 (refine sq S ?_; clear S; intro a S)
  refine wl_nil ?_
  refine xtn ?_
  refine c_cond S (fun h2 => ?_) (fun h2 => ?_)
  · refine c_seq ?_
    refine c_region ?_
    iterate 2 (refine sq S ?_; clear S; intro a S)
    refine wl_nil ?_
    refine xtn ?_
    refine c_ret ?_
    refine xtr ?_
    have hrow := S.row p n
    refine end1 S (fun _ => ?_)
    rcases idxQ_cases q xs 0 with ⟨h3, h4⟩ | ⟨i, h3, _⟩
    · have hz : xs.filter (fun x => !q x) = xs := List.filter_eq_self.2 fun x hx => by rw [h4 x hx]; rfl
      exact ⟨xs, hz.symm, by rw [hn], by rw [hn]; exact hrow⟩
    · simp only [show ((0 : Nat) : Int) = 0 from rfl] at h3
      rw [h3] at h2; simp at h2
  · refine c_skip ?_
    refine xtn ?_
    refine c_seq ?_
    obtain ⟨i, h3, hi, hqi, hlt⟩ : ∃ i : Nat, idxQ q xs 0 = (i : Int) ∧ i < xs.length ∧ q (nthL xs i) = true ∧ ∀ x ∈ xs.take i, q x = false := by
      rcases idxQ_cases q xs 0 with ⟨h3, _⟩ | ⟨i, h3, h4, h5, h6⟩
      · simp only [show ((0 : Nat) : Int) = 0 from rfl] at h3
        rw [h3] at h2; simp at h2
      · simp only [show ((0 : Nat) : Int) = 0 from rfl, Nat.zero_add] at h3
        exact ⟨i, h3, h4, h5, h6⟩
    rw [h3] at S
    refine c_seq ?_
    refine c_region ?_
    iterate 3 (refine sq S ?_; clear S; intro a S)
    refine wl_nil ?_
    refine xtn ?_
    refine c_block ?_
    rw [w64 ((i : Int) + 1) (by omega) (by omega), show (i : Int) + 1 = ((i + 1 : Nat) : Int) from rfl] at S
    obtain ⟨i0, hi0⟩ : ∃ i0, i0 = i := ⟨_, rfl⟩
    refine c_loop (ι := Nat) (fun j a w => ∃ i ys, i < j ∧ j ≤ n ∧ ys.length = n ∧ ys.take i = (xs.take j).filter (fun x => !q x) ∧ ys.drop j = xs.drop j ∧ ∃ uu : Nat → Value,  St w0 (fun k => ∃ ad, p = some ad ∧ k = ad.block) [] a w ((.slice p n c) :: (.func (.func F) #[] #[]) :: uu 2 :: uu 3 :: uu 4 :: (.int .i64 (i : Nat)) :: (.int .i64 (j : Nat)) :: uu 7 :: uu 8 :: uu 9 :: uu 10 :: uu 11 :: uu 12 :: uu 13 :: uu 14 :: uu 15 :: uu 16 :: uu 17 :: uu 18 :: uu 19 :: uu 20 :: uu 21 :: uu 22 :: uu 23 :: uu 24 :: uu 25 :: uu 26 :: uu 27 :: uu 28 :: uu 29 :: uu 30 :: uu 31 :: uu 32 :: uu 33 :: uu 34 :: uu 35 :: uu 36 :: uu 37 :: uu 38 :: uu 39 :: uu 40 :: uu 41 :: []) [Wk.row 37 5 p n c (encL ys)] [AllL xs]) (fun j => n - j) (i + 1) ?_ ?_
    · refine ⟨i, xs, by omega, by omega, hn, ?_, rfl, S.uu, S⟩
      rw [List.take_add_one, nth_get hi, List.filter_append]
      simp only [Option.toList_some, List.filter_cons, hqi, Bool.not_true, Bool.false_eq_true, if_false, List.filter_nil, List.append_nil]
      exact (List.filter_eq_self.2 fun x hx => by rw [hlt x hx]; rfl).symm
    · clear S
      rintro j a w ⟨i, ys, hij, hjn, hyl, hy1, hy2, uu, S⟩
      iterate 2 (refine c_seq ?_)
      refine c_region ?_
      iterate 4 (refine sq S ?_; clear S; intro a S)
      refine wl_nil ?_
      refine xtn ?_
      refine c_cond S (fun h5 => ?_) (fun h5 => ?_)
      · refine c_skip ?_
        refine xtn ?_
        refine c_seq ?_
        refine c_block ?_
        refine c_seq ?_
        have hjl : j < n := by simp at h5; omega
        have hK : KLt j n := ⟨hjl⟩
        have hyj : ys[j]? = some (nthL xs j) := by
          have := congrArg (fun l => l[0]?) hy2
          simp only [List.getElem?_drop, Nat.add_zero] at this
          rw [this, nth_get (by omega)]
        refine c_region ?_
        iterate 3 (refine sq S ?_; clear S; intro a S)
        refine slrA (nthL xs j).cells S n (fun k v hk => ?_) ?_
        · have hk5 : k < 5 := (List.getElem?_eq_some_iff.1 hk).1
          rw [← hk]; exact encL_get ys j _ hyj k hk5
        clear S; intro a S
        refine sa S ?_; clear S; intro b7 a w S
        refine sw S ?_; clear S; intro a w S
        refine wl_nil ?_
        refine xtn ?_
        refine c_seq ?_
        refine c_region ?_
        iterate 2 (refine sq S ?_; clear S; intro a S)
        refine sr S (hF (nthL xs j) w) ?_; clear S; rintro _ a w rfl S
        refine sq S ?_; clear S; intro a S
        refine wl_nil ?_
        refine xtn ?_
        refine c_cond S (fun h8 => ?_) (fun h8 => ?_)
        · refine c_seq ?_
          have hKi : KLt i n := ⟨by omega⟩
          refine c_region ?_
          iterate 4 (refine sq S ?_; clear S; intro a S)
          refine sws S n (by omega) (by omega) ?_; clear S; intro a w S
          rw [encL_set ys i (nthL xs j) (by omega)] at S
          refine wl_nil ?_
          refine xtn ?_
          refine c_region ?_
          iterate 2 (refine sq S ?_; clear S; intro a S)
          rw [w64 ((i : Int) + 1) (by omega) (by omega), show (i : Int) + 1 = ((i + 1 : Nat) : Int) from rfl] at S
          refine sq S ?_; clear S; intro a S
          refine wl_nil ?_
          refine xbn ?_
          refine xtn ?_
          refine c_region ?_
          iterate 3 (refine sq S ?_; clear S; intro a S)
          refine wl_nil ?_
          refine xtn ?_
          have hq8 : q (nthL xs j) = false := by simpa using h8
          rw [w64 ((j : Int) + 1) (by omega) (by omega)] at S
          refine ⟨j + 1, ⟨i + 1, ys.set i (nthL xs j), by omega, hjl, by simpa using hyl, ?_, ?_, S.uu, S.sub _ _⟩, by omega⟩
          · rw [List.take_add_one (l := xs), nth_get (show j < xs.length by omega), List.filter_append, ← hy1, List.take_add_one, List.take_set_of_le (Nat.le_refl _), List.getElem?_set_self (by omega)]
            simp [hq8]
          · rw [List.drop_set_of_lt (by omega), ← List.drop_drop, hy2, List.drop_drop]
        · refine c_skip ?_
          refine xbn ?_
          refine xtn ?_
          refine c_region ?_
          iterate 3 (refine sq S ?_; clear S; intro a S)
          refine wl_nil ?_
          refine xtn ?_
          have hq8 : q (nthL xs j) = true := by simpa using h8
          rw [w64 ((j : Int) + 1) (by omega) (by omega)] at S
          refine ⟨j + 1, ⟨i, ys, by omega, hjl, hyl, ?_, ?_, S.uu, S.sub _ _⟩, by omega⟩
          · rw [List.take_add_one (l := xs), nth_get (show j < xs.length by omega), List.filter_append, ← hy1]
            simp [hq8]
          · rw [← List.drop_drop, hy2, List.drop_drop]
      · refine c_exit ?_
        iterate 2 (refine xte ?_)
        refine xbe ?_
        refine xtn ?_
        refine c_seq ?_
        have hj2 : j = n := by simp at h5; omega
        subst hj2
        rw [List.take_of_length_le (l := xs) (by omega)] at hy1
        have hL1 : LeC j c := ⟨hnc⟩
        have hL2 : LeC i j := ⟨by omega⟩
        have hL3 : LeC i c := ⟨by omega⟩
        have hL4 : LeC 0 i := ⟨by omega⟩
        replace S := S.cutRow p i j (by omega)
        rw [show (encL ys).take (i * 5) = encL (xs.filter (fun x => !q x)) from (encL_take ys i).trans (by rw [hy1])] at S
        refine c_region ?_
        iterate 3 (refine sq S ?_; clear S; intro a S)
        refine sclr p i S rfl rfl (by omega) ?_; clear S; intro a w S
        refine wl_nil ?_
        refine xtn ?_
        refine c_seq ?_
        refine c_region ?_
        iterate 3 (refine sq S ?_; clear S; intro a S)
        rw [cut0, Nat.sub_zero, Nat.sub_zero] at S
        refine sq S ?_; clear S; intro a S
        refine wl_nil ?_
        refine xtn ?_
        refine c_ret ?_
        have hrow := S.row p i
        have hzl : (xs.filter (fun x => !q x)).length = i := by rw [← hy1, List.length_take]; omega
        refine end1 S (fun _ => ?_)
        exact ⟨_, rfl, by rw [hzl], by rw [hzl]; exact hrow⟩
def noAtom (x : LTerm) : Bool := !decide (x.kind = 2) && !decide (x.kind = 3)
theorem noatom_c (x : LTerm) (w0 : World) : Ret Try.prog 75 [vL x] w0 (fun _ => False) fun v _ => v = .bool (noAtom x) := by
  refine enter Try.func75 rfl rfl (Wd.start w0) (fun a S => ?_)
  simp only [Try.ntmps75, List.length_cons, List.length_nil, Nat.reduceAdd, Nat.reduceSub, List.replicate_succ, List.replicate_zero, List.cons_append, List.nil_append] at S
  refine c_seq ?_
  refine c_region ?_
  refine sa S ?_; clear S; intro b1 a w S
  refine sq S ?_; clear S; intro a S
  refine wl_nil ?_
  refine xtn ?_
  refine c_seq ?_
  refine c_region ?_
  iterate 4 (refine sq S ?_; clear S; intro a S)
  iterate 3 (refine gQ S ?_; clear S; intro a S)
  iterate 2 (refine sq S ?_; clear S; intro a S)
  refine wl_nil ?_
  refine xtn ?_
  refine c_ret ?_
  refine end1 S (fun _ => ?_)
  rfl
theorem atoms_c (xs : List LTerm) (p : Option Addr) (c : Nat) (w0 : World) (hx : Stable (fun _ => False) w0 (LsF p 0 xs)) (h0 : chkF (xs.map LTerm.t) [] = 0) :
    Ret Try.prog 39 [.slice p xs.length c] w0 (fun _ => False) fun v w' => ∃ p' c' zs, v = .tuple ⟨[.slice p' zs.length c', .int .i64 0]⟩ ∧ Stable (fun _ => False) w' (LsF p' 0 zs) ∧ zs.length ≤ 10000000 ∧
      ∃ km, Apart (xs.map LTerm.t) km ∧ ∀ x, x ∈ zs ↔ x ∈ km.map (·.2) ∧ (x.kind = 2 ∨ x.kind = 3) := by
  refine enter Try.func39 rfl rfl (Wd.begin (fs := [LsF p 0 xs]) (by simpa using hx)) (fun a S => ?_)
  simp only [Try.ntmps39, List.length_cons, List.length_nil, Nat.reduceAdd, Nat.reduceSub, List.replicate_succ, List.replicate_zero, List.cons_append, List.nil_append] at S
  refine c_seq ?_
  refine c_region ?_
  iterate 2 (refine sq S ?_; clear S; intro a S)
  refine wl_nil ?_
  refine xtn ?_
  refine c_seq ?_
  refine c_region ?_
  refine sq S ?_; clear S; intro a S
  refine srn S (parts_c sort_ok xs p c _ (S.mem.fact0 (LsF p 0 xs))) ?_; clear S; rintro _ a w ⟨p', c', ls, rfl, hrow, hnew, hst, -, h1, hll⟩ hS -
  have S := hS hrow hnew
  clear hS
  obtain ⟨km, hA, -, hperm⟩ := h1 h0
  rw [h0] at S
  replace S := S.add (Φ := AllL ls) ((AllL.stable hst).less (fun k _ ⟨it, hi, hk⟩ => by obtain rfl := List.mem_singleton.1 hi; exact hk))
  iterate 5 (refine sq S ?_; clear S; intro a S)
  refine wl_nil ?_
  refine xtn ?_
  iterate 2 (refine c_seq ?_)
  refine c_region ?_
  iterate 2 (refine sq S ?_; clear S; intro a S)
  refine wl_nil ?_
  refine xtn ?_
  refine c_cond S (fun h2 => ?_) (fun h2 => ?_)
  · refine c_seq ?_
    refine c_region ?_
    iterate 3 (refine sq S ?_; clear S; intro a S)
    refine wl_nil ?_
    refine xtn ?_
    refine c_ret ?_
    refine xtr ?_
    exfalso
    simp at h2
  · refine c_skip ?_
    refine xtn ?_
    refine c_seq ?_
    refine c_region ?_
    refine sq S ?_; clear S; intro a S
    have hst2 : ∀ x ∈ ls, Stable (fun k => ∃ ad, p' = some ad ∧ k = ad.block) w (LtF x) := fun x hx => AllL.get (S.rowFact p' ls.length (Φ := AllL ls) (by simp)) hx
    refine srg p' ls.length S (deletef_c 75 noAtom ls p' ls.length c' w rfl (by omega) (S.row p' ls.length) hst2 noatom_c) ?_; clear S; rintro _ a w ⟨zs, hzs, rfl, hown⟩ hS
    have S := hS _ hown (fun ad h => .inl ⟨ad, h, rfl⟩)
    clear hS hown
    iterate 2 (refine sq S ?_; clear S; intro a S)
    refine wl_nil ?_
    refine xtn ?_
    refine c_ret ?_
    have hls := ls_of_own (M := fun _ => False) (S.row p' zs.length) (fun x hx => (AllL.get (S.mem.fact0 (AllL ls)) (by rw [hzs] at hx; exact (List.mem_filter.1 hx).1))) (fun _ _ h => h)
    refine end2 S (fun _ => ?_)
    refine ⟨p', c', zs, rfl, hls, by rw [hzs]; exact Nat.le_trans (List.length_filter_le _ _) (by omega), km, hA, fun x => ?_⟩
    rw [hzs, List.mem_filter, hperm.mem_iff]
    simp only [noAtom, Bool.not_and, Bool.not_not, Bool.or_eq_true, decide_eq_true_eq]
theorem atom_any {K : List Term} {km : List (List UInt8 × LTerm)} {zs : List LTerm} (A : Apart K km) (hzs : ∀ x, x ∈ zs ↔ x ∈ km.map (·.2) ∧ (x.kind = 2 ∨ x.kind = 3)) {k u n : Int} {s : List UInt8} {ks : List Term} (hg : Good (.mk k u n s ks)) (hk : k = 2 ∨ k = 3) :
    derB K (.mk k u n s ks) = zs.any (fun y => sameF y.t (.mk k u n s ks)) := by
  rw [Bool.eq_iff_iff, derB_iff, ← can_iff A hg, List.any_eq_true]
  constructor
  · intro h
    rw [canF] at h
    have e1 : decide (k = 1) = false := by simp; omega
    have e2 : (decide (k = 2) || decide (k = 3)) = true := by simpa using hk
    rw [e1, e2] at h
    simp only [Bool.or_false, Bool.not_true, Bool.false_and] at h
    obtain ⟨e, he, h1⟩ := inM_iff.1 h
    rw [A.names e he] at h1
    have h2 := name_inj (A.good e he).1 hg h1
    refine ⟨e.2, (hzs _).2 ⟨List.mem_map.2 ⟨e, he, rfl⟩, ?_⟩, (sameF_iff _ _).2 h2⟩
    rw [e.2.t_eq, Term.mk.injEq] at h2
    rw [h2.1]; exact hk
  · rintro ⟨y, hy, h⟩
    obtain ⟨e, he, rfl⟩ := List.mem_map.1 ((hzs y).1 hy).1
    refine can_in (inM_iff.2 ⟨e, he, ?_⟩)
    rw [A.names e he, (sameF_iff _ _).1 h]
theorem atomlaw_c (xs : List LTerm) (us num : Int) (p : Option Addr) (c : Nat) (w0 : World) (hx : Stable (fun _ => False) w0 (LsF p 0 xs)) :
    Ret Try.prog 9 [.slice p xs.length c, .int .i64 us, .int .i64 num] w0 (fun _ => False) fun v _ => v = .bool true := by
  refine enter Try.func9 rfl rfl (Wd.begin (fs := [LsF p 0 xs]) (by simp; exact hx)) (fun a S => ?_)
  simp only [Try.ntmps9, List.length_cons, List.length_nil, Nat.reduceAdd, Nat.reduceSub, List.replicate_succ, List.replicate_zero, List.cons_append, List.nil_append] at S
  refine c_seq ?_
  refine c_region ?_
  refine sq S ?_; clear S; intro a S
  refine wl_nil ?_
  refine xtn ?_
  iterate 2 (refine c_seq ?_)
  refine c_region ?_
  refine sr S (wakes7_c _) ?_; clear S; rintro _ a w rfl S
  refine sq S ?_; clear S; intro a S
  rw [show (!true) = false from rfl] at S
  refine wl_nil ?_
  refine xtn ?_
  refine c_condF S ?_
  refine c_skip ?_
  refine xtn ?_
  refine c_seq ?_
  refine c_region ?_
  iterate 4 (refine sq S ?_; clear S; intro a S)
  have hu := mod6' us
  rw [w64 ((max us 0).tmod 6 + 1) (by omega) (by omega)] at S
  generalize (max us 0).tmod 6 + 1 = u at S hu
  iterate 3 (refine sq S ?_; clear S; intro a S)
  have hn := mod64' num
  generalize (max num 0).tmod 65536 = n at S hn
  iterate 2 (refine sq S ?_; clear S; intro a S)
  refine wl_nil ?_
  refine xtn ?_
  iterate 2 (refine c_seq ?_)
  refine c_region ?_
  refine sq S ?_; clear S; intro a S
  refine sr S (fine_c xs p c w (S.mem.fact0 (LsF p 0 xs))) ?_; clear S; rintro _ a w ⟨f1, rfl, hf1⟩ S
  refine sq S ?_; clear S; intro a S
  refine wl_nil ?_
  refine xtn ?_
  refine c_cond S (fun h4 => ?_) (fun h4 => ?_)
  · refine c_seq ?_
    refine c_region ?_
    refine sq S ?_; clear S; intro a S
    refine wl_nil ?_
    refine xtn ?_
    refine c_ret ?_
    refine xtr ?_
    exact end1 S (fun _ => rfl)
  · refine c_skip ?_
    refine xtn ?_
    refine c_seq ?_
    obtain ⟨hlx, hgx, htx⟩ := hf1 (by simpa using h4)
    have hgK := good_map hgx
    refine c_region ?_
    refine sq S ?_; clear S; intro a S
    have hz := (chk_zero (K := xs.map LTerm.t) (L := [])).2 ⟨by simp; omega, by simpa using hgx⟩
    refine sr S (atoms_c xs p c w (S.mem.fact0 (LsF p 0 xs)) hz) ?_; clear S; rintro _ a w ⟨p', c', zs, rfl, hls, hzl, km, hA, hzs⟩ S
    replace S := S.add (hls.less (fun k _ ⟨it, hi, _⟩ => by cases hi))
    iterate 5 (refine sq S ?_; clear S; intro a S)
    refine wl_nil ?_
    refine xtn ?_
    iterate 2 (refine c_seq ?_)
    refine c_region ?_
    iterate 2 (refine sq S ?_; clear S; intro a S)
    refine wl_nil ?_
    refine xtn ?_
    refine c_cond S (fun h7 => ?_) (fun h7 => ?_)
    · refine c_seq ?_
      refine c_region ?_
      refine sq S ?_; clear S; intro a S
      refine wl_nil ?_
      refine xtn ?_
      refine c_ret ?_
      refine xtr ?_
      exfalso
      simp at h7
    · refine c_skip ?_
      refine xtn ?_
      iterate 2 (refine c_seq ?_)
      refine c_region ?_
      iterate 2 (refine sq S ?_; clear S; intro a S)
      refine sc S ?_; clear S; intro a w S
      refine sq S ?_; clear S; intro a S
      refine sc S ?_; clear S; intro a w S
      refine sn S ?_; clear S; intro b40 a w S
      iterate 2 (refine sq S ?_; clear S; intro a S)
      refine wl_nil ?_
      refine xtn ?_
      refine c_block ?_
      obtain ⟨rs, hrs⟩ : ∃ rs, rs = [freshL u n, secretL u] := ⟨_, rfl⟩
      have hN3 : LenN rs 2 := ⟨by rw [hrs]; rfl⟩
      have hl3 : rs.length = 2 := by rw [hrs]; rfl
      replace S := S.boxLs rs (by rw [hrs]; simp) (fun x hx => by
        rw [hrs] at hx
        simp only [List.mem_cons, List.not_mem_nil, or_false] at hx
        rcases hx with rfl | rfl <;> exact S.t _)
      obtain ⟨q40, hq40⟩ : ∃ q : Option Addr, q = some ⟨b40, 0, none⟩ := ⟨_, rfl⟩
      rw [← hq40] at S
      refine c_loop (ι := Nat) (fun k a w => k ≤ 2 ∧ ∃ uu : Nat → Value,  St w0 (fun _ => False) [] a w ((.slice p xs.length c) :: uu 1 :: uu 2 :: uu 3 :: uu 4 :: uu 5 :: uu 6 :: (.slice p' zs.length c') :: uu 8 :: uu 9 :: uu 10 :: uu 11 :: uu 12 :: uu 13 :: uu 14 :: uu 15 :: uu 16 :: uu 17 :: uu 18 :: uu 19 :: uu 20 :: uu 21 :: uu 22 :: uu 23 :: uu 24 :: uu 25 :: uu 26 :: uu 27 :: uu 28 :: uu 29 :: uu 30 :: uu 31 :: uu 32 :: uu 33 :: uu 34 :: uu 35 :: uu 36 :: uu 37 :: uu 38 :: uu 39 :: (.slice q40 2 2) :: (.int .i64 2) :: (.int .i64 (k : Nat)) :: uu 43 :: uu 44 :: uu 45 :: uu 46 :: uu 47 :: uu 48 :: uu 49 :: uu 50 :: uu 51 :: uu 52 :: uu 53 :: uu 54 :: uu 55 :: uu 56 :: uu 57 :: uu 58 :: uu 59 :: uu 60 :: uu 61 :: uu 62 :: uu 63 :: uu 64 :: uu 65 :: uu 66 :: uu 67 :: uu 68 :: uu 69 :: uu 70 :: uu 71 :: uu 72 :: []) [] [LsF q40 0 rs, LsF p' 0 zs, LsF p 0 xs]) (fun k => 2 - k) 0 ?_ ?_
      · exact ⟨Nat.zero_le _, S.uu, S.sub _ _⟩
      · clear S
        rintro k a w ⟨hk, uu, S⟩
        refine c_seq ?_
        refine c_region ?_
        refine sq S ?_; clear S; intro a S
        refine wl_nil ?_
        refine xtn ?_
        refine c_seq ?_
        refine c_cond S (fun h10 => ?_) (fun h10 => ?_)
        · refine c_skip ?_
          refine xtn ?_
          refine c_seq ?_
          refine c_block ?_
          refine c_seq ?_
          have hkl : k < 2 := by simp at h10; omega
          have hK : KLt k 2 := ⟨hkl⟩
          have hK' : KLt k rs.length := ⟨by omega⟩
          have hx3 : ∃ kk uu nn, (kk = 2 ∨ kk = 3) ∧ (nthL rs k).t = .mk kk uu nn [] [] ∧ Good (.mk kk uu nn [] []) := by
            rw [hrs]
            obtain rfl | rfl : k = 0 ∨ k = 1 := by omega
            · exact ⟨2, u, n, .inl rfl, rfl, good_fresh hu hn⟩
            · exact ⟨3, u, 0, .inr rfl, rfl, good_secret hu⟩
          obtain ⟨kk, uk, nk, hkk, hxt, hxg⟩ := hx3
          refine c_region ?_
          iterate 2 (refine sq S ?_; clear S; intro a S)
          refine sa S ?_; clear S; intro b10 a w S
          refine sw S ?_; clear S; intro a w S
          refine wl_nil ?_
          refine xtn ?_
          refine c_seq ?_
          refine c_region ?_
          refine sq S ?_; clear S; intro a S
          refine wl_nil ?_
          refine xtn ?_
          iterate 2 (refine c_seq ?_)
          refine c_region ?_
          iterate 3 (refine sq S ?_; clear S; intro a S)
          refine wl_nil ?_
          refine xtn ?_
          refine c_block ?_
          refine c_loop (ι := Nat) (fun m a w => m ≤ zs.length ∧ ∃ uu : Nat → Value,  St w0 (fun _ => False) [] a w ((.slice p xs.length c) :: uu 1 :: uu 2 :: uu 3 :: uu 4 :: uu 5 :: uu 6 :: (.slice p' zs.length c') :: uu 8 :: uu 9 :: (.pointer (some ⟨b10, 0, none⟩)) :: (.bool ((zs.take m).any fun y => sameF y.t (nthL rs k).t)) :: uu 12 :: uu 13 :: uu 14 :: uu 15 :: uu 16 :: uu 17 :: uu 18 :: uu 19 :: uu 20 :: uu 21 :: uu 22 :: uu 23 :: uu 24 :: uu 25 :: uu 26 :: uu 27 :: uu 28 :: uu 29 :: uu 30 :: uu 31 :: uu 32 :: uu 33 :: uu 34 :: uu 35 :: uu 36 :: uu 37 :: uu 38 :: uu 39 :: (.slice q40 2 2) :: (.int .i64 2) :: (.int .i64 (k : Nat)) :: uu 43 :: uu 44 :: uu 45 :: (.slice p' zs.length c') :: (.int .i64 zs.length) :: (.int .i64 (m : Nat)) :: uu 49 :: uu 50 :: uu 51 :: uu 52 :: uu 53 :: uu 54 :: uu 55 :: uu 56 :: uu 57 :: uu 58 :: uu 59 :: uu 60 :: uu 61 :: uu 62 :: uu 63 :: uu 64 :: uu 65 :: uu 66 :: uu 67 :: uu 68 :: uu 69 :: uu 70 :: uu 71 :: uu 72 :: []) [Wk.box b10 37 (nthL rs k).cells] [LsF q40 0 rs, LsF p' 0 zs, LsF p 0 xs]) (fun m => zs.length - m) 0 ?_ ?_
          · exact ⟨Nat.zero_le _, S.uu, S.sub _ _⟩
          · clear S
            rintro m a w ⟨hm, uu, S⟩
            refine c_seq ?_
            refine c_region ?_
            refine sq S ?_; clear S; intro a S
            refine wl_nil ?_
            refine xtn ?_
            refine c_seq ?_
            refine c_cond S (fun h14 => ?_) (fun h14 => ?_)
            · refine c_skip ?_
              refine xtn ?_
              refine c_seq ?_
              refine c_block ?_
              refine c_seq ?_
              have hml : m < zs.length := by simp at h14; omega
              have hKm : KLt m zs.length := ⟨hml⟩
              refine c_region ?_
              iterate 2 (refine sq S ?_; clear S; intro a S)
              refine sa S ?_; clear S; intro b13 a w S
              refine sw S ?_; clear S; intro a w S
              refine wl_nil ?_
              refine xtn ?_
              refine c_region ?_
              iterate 2 (refine sq S ?_; clear S; intro a S)
              iterate 2 (refine gQ S ?_; clear S; intro a S)
              refine gC S ?_; clear S; intro a w S
              iterate 2 (refine sq S ?_; clear S; intro a S)
              refine wl_nil ?_
              refine xbn ?_
              refine xtn ?_
              refine c_region ?_
              iterate 2 (refine sq S ?_; clear S; intro a S)
              refine wl_nil ?_
              refine xtn ?_
              rw [w64 ((m : Int) + 1) (by omega) (by omega)] at S
              have e : ((zs.take m).any (fun y => sameF y.t (nthL rs k).t) || sameF (nthL zs m).t (nthL rs k).t) = (zs.take (m + 1)).any fun y => sameF y.t (nthL rs k).t := by
                rw [List.take_add_one, nth_get hml, List.any_append]; simp
              rw [e] at S
              exact ⟨m + 1, ⟨hml, S.uu, S.sub _ _⟩, by omega⟩
            · refine c_exit ?_
              iterate 2 (refine xte ?_)
              refine xbe ?_
              refine xtn ?_
              refine c_seq ?_
              have hm2 : m = zs.length := by simp at h14; omega
              rw [List.take_of_length_le (by omega), hxt, ← atom_any hA hzs hxg hkk] at S
              refine c_region ?_
              iterate 2 (refine sq S ?_; clear S; intro a S)
              have hz3 := can_der0 (t := (nthL rs k).t) (by simp; omega) hgK (hxt ▸ hxg)
              refine sr S (can_cl xs (nthL rs k) p c w (S.mem.fact0 (LsF p 0 xs)) (S.mem.t0 _)) ?_; clear S; rintro _ a w rfl S
              rw [hz3.1, hz3.2, hxt] at S
              iterate 5 (refine sq S ?_; clear S; intro a S)
              refine wl_nil ?_
              refine xtn ?_
              refine c_seq ?_
              refine c_region ?_
              iterate 3 (refine sq S ?_; clear S; intro a S)
              iterate 3 (refine gQ S ?_; clear S; intro a S)
              refine sq S ?_; clear S; intro a S
              refine wl_nil ?_
              refine xtn ?_
              refine c_cond S (fun h19 => ?_) (fun h19 => ?_)
              · refine c_seq ?_
                refine c_region ?_
                refine sq S ?_; clear S; intro a S
                refine wl_nil ?_
                refine xtn ?_
                refine c_ret ?_
                refine xbr ?_
                iterate 2 (refine xtr ?_)
                refine xbr ?_
                refine xtr ?_
                exfalso
                simp at h19
              · refine c_skip ?_
                refine xbn ?_
                refine xtn ?_
                refine c_region ?_
                iterate 2 (refine sq S ?_; clear S; intro a S)
                refine wl_nil ?_
                refine xtn ?_
                rw [w64 ((k : Int) + 1) (by omega) (by omega)] at S
                exact ⟨k + 1, ⟨hkl, S.uu, S.sub _ _⟩, by omega⟩
        · refine c_exit ?_
          iterate 2 (refine xte ?_)
          refine xbe ?_
          refine xtn ?_
          refine c_seq ?_
          refine c_region ?_
          refine sq S ?_; clear S; intro a S
          refine wl_nil ?_
          refine xtn ?_
          refine c_ret ?_
          exact end1 S (fun _ => rfl)
end Go.Proofs.Ytajmjbboahmdkaa
