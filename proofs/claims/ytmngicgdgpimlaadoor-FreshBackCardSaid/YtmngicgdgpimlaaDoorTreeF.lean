/- Package tree: Read. -/
import Derived.Test.YtmngicgdgpimlaaDoorTreeE
import Derived.Test.YtmngicgdgpimlaaDoorTermH
namespace Go.Proofs.YtmngicgdgpimlaaDoor
open Go Go.Wk
set_option synthInstance.maxSize 100000
set_option synthInstance.maxHeartbeats 400000
set_option maxRecDepth 100000

instance : IfT Tryd.prog 78 := ⟨by kernel_rfl⟩
def VarF (name : String) : World → Prop := fun w => ∃ tp p, w.var? Tryd.prog name = some #[.iface tp p]
theorem atoi_c (s : List UInt8) (hs : s.length ≤ 1000) (w0 : World) (h1 : VarF "strconv.ErrSyntax" w0) (h2 : VarF "strconv.ErrRange" w0) : Ret Tryd.prog 43 [str s] w0 (fun _ => False) fun v _ => ∃ (n : Int) (b : Bool) (te : TypeId) (pe : Value), v = .tuple ⟨[.int .i64 n, errV b te pe]⟩ ∧ (-9223372036854775808 ≤ n ∧ n ≤ 9223372036854775807) ∧ (b = true ↔ ∃ m, Lib.atoiAll s = .ok m) ∧ (∀ m, Lib.atoiAll s = .ok m → n = m) := by
  obtain ⟨tp1, p1, hv1⟩ := h1
  obtain ⟨tp2, p2, hv2⟩ := h2
  have hsz : (⟨s.toArray⟩ : ByteArray).size = s.length := rfl
  rcases h : Lib.atoiAll s with m | _ | _
  · refine Calls.mono (Any.strconv_Atoi_ok Tryd.laysC172 ⟨s.toArray⟩ (by rw [hsz]; omega) m h w0) ?_
    rintro e w' ⟨rfl, hw⟩
    refine ⟨_, rfl, ?_, m, true, 0, .nilIface, rfl, Lib.atoiAll_bounds h, ⟨fun _ => ⟨m, rfl⟩, fun _ => rfl⟩, fun m' e => by injection e⟩
    rcases hw with rfl | ⟨t, rfl⟩
    · exact Agree.refl _ _
    · exact ⟨rfl, rfl, rfl, by rw [Lib.bytesWorld_size]; omega, fun k hk _ => Lib.bytesWorld_at_old _ _ _ k hk⟩
  · refine Calls.mono (Any.strconv_Atoi_syntax_var Tryd.laysC172 ⟨s.toArray⟩ (by rw [hsz]; omega) h tp1 p1 w0 hv1) ?_
    rintro e w' ⟨N, rfl, hN, -, hb⟩
    refine ⟨_, rfl, ?_, 0, false, _, _, rfl, ⟨by omega, by omega⟩, ⟨nofun, fun ⟨m, e⟩ => by cases e⟩, fun m e => by cases e⟩
    exact Agree.ofBelow hb
  · refine Calls.mono (Any.strconv_Atoi_range_var Tryd.laysC172 ⟨s.toArray⟩ (by rw [hsz]; omega) h tp2 p2 w0 hv2) ?_
    rintro e w' ⟨N, rfl, hN, -, hb⟩
    refine ⟨_, rfl, ?_, Lib.atoiSat s, false, _, _, rfl, Lib.atoiSat_bounds s, ⟨nofun, fun ⟨m, e⟩ => by cases e⟩, fun m e => by cases e⟩
    exact Agree.ofBelow hb
theorem VarF.stable {name : String} {w : World} (h : VarF name w) : Stable (fun _ => False) w (VarF name) := fun w' hw' => by
  obtain ⟨tp, p, hv⟩ := h
  exact ⟨tp, p, var_agree hv hw'⟩
/-- the library's variables stand. -/
def LibF : World → Prop := fun w => TabF w ∧ VarF "strconv.ErrSyntax" w ∧ VarF "strconv.ErrRange" w
theorem LibF.stable {w : World} (h : LibF w) : Stable (fun _ => False) w LibF := fun w' hw' => ⟨h.1.stable w' hw', h.2.1.stable w' hw', h.2.2.stable w' hw'⟩
def ReadR (M : Nat → Prop) (t : Term) (v : Value) (w : World) : Prop := ∃ (p : Option Addr) (c : Nat) (ms : List LMark) (e : Int), v = .tuple ⟨[.slice p ms.length c, .int .i64 e]⟩ ∧ Stable M w (GlF p ms) ∧ ms.length ≤ c ∧
  (e = 0 → okM ms = true ∧ t = writeT ms ∧ Good t) ∧ (e ≠ 0 → e = 240 ∧ ms = [] ∧ ∀ l, okM l = true → t = writeT l → ¬ Good t)
theorem rowM_kid {x : LTerm} {m : LMark} (h : x.t = rowM m) : x.kind = 4 ∧ x.kids.length = 2 ∧ (nthL x.kids 0).kind = 1 ∧ (nthL x.kids 1).kind = 1 ∧ (nthL x.kids 0).text = m.key ∧ (nthL x.kids 1).text = Lib.itoa m.ver := by
  rw [x.t_eq] at h
  simp only [rowM, Term.pair, Term.mk.injEq] at h
  obtain ⟨h1, -, -, -, h5⟩ := h
  have hl : x.kids.length = 2 := by have := congrArg List.length h5; simpa using this
  obtain ⟨u, v, huv⟩ : ∃ u v, x.kids = [u, v] := by
    match h : x.kids, hl with
    | [u, v], _ => exact ⟨u, v, rfl⟩
  have e0 : nthL x.kids 0 = u := by rw [huv]; rfl
  have e1 : nthL x.kids 1 = v := by rw [huv]; rfl
  rw [e0, e1]
  rw [huv] at h5
  simp only [List.map_cons, List.map_nil, List.cons.injEq, and_true] at h5
  have h6 := h5.1
  have h7 := h5.2
  rw [u.t_eq, textT, Term.mk.injEq] at h6
  rw [v.t_eq, textT, Term.mk.injEq] at h7
  exact ⟨h1, hl, h6.1, h7.1, h6.2.2.2.1, h7.2.2.2.1⟩
theorem rowM_of {x : LTerm} (hg : Good x.t) (hk : x.kind = 4) (h0 : (nthL x.kids 0).kind = 1) (h1 : (nthL x.kids 1).kind = 1) {m : LMark} (e0 : (nthL x.kids 0).text = m.key) (e1 : (nthL x.kids 1).text = Lib.itoa m.ver) : x.t = rowM m := by
  obtain ⟨hl, hpr⟩ := good_pr hg hk
  have hg' := hg
  rw [hpr] at hg'
  have key : ∀ {y : LTerm}, Good y.t → y.kind = 1 → y.t = textT y.text := fun {y} hy hk => by
    have h := hy
    rw [y.t_eq] at h
    rcases plain_shape (goodP h) with q | q | q | q | q | q | q
    · have hz : y.kids = [] := List.eq_nil_of_length_eq_zero (by have := q.2.2.2.2; simpa using this)
      rw [y.t_eq, hk, q.2.1, q.2.2.1, hz]; rfl
    all_goals omega
  rw [hpr, key (good_kid hg' (by simp)) h0, key (good_kid hg' (by simp)) h1, e0, e1]; rfl
theorem tread_c (t : LTerm) (M : Nat → Prop) (w0 : World) (hM : ∀ k, M k → k < w0.heap.size) (ht : Stable M w0 LibF) (hf : Stable M w0 (LtF t)) : Ret Tryd.prog 23 [vL t] w0 (fun _ => False) fun v w' => ReadR M t.t v w' := by
  refine enter Tryd.func23 rfl rfl (Wd.beginM (M := M) (fs := [TabF, LibF, LtF t]) hM (by simp; exact ⟨ht.imp fun _ h => h.1, ht, hf⟩)) (fun a S => ?_)
  simp only [Tryd.ntmps23, List.length_cons, List.length_nil, Nat.reduceAdd, Nat.reduceSub, List.replicate_succ, List.replicate_zero, List.cons_append, List.nil_append] at S
  refine c_seq ?_
  refine c_region ?_
  refine sa S ?_; clear S; intro b1 a w S
  iterate 2 (refine sq S ?_; clear S; intro a S)
  refine wl_nil ?_
  refine xtn ?_
  refine c_seq ?_
  refine c_region ?_
  refine sq S ?_; clear S; intro a S
  refine sr S (unlist2_c t _ w (foots_lt S) (S.t t)) ?_; clear S; rintro _ a w ⟨pu, cu, us, b0, rfl, huf, hul, hb1, hb2⟩ S
  replace S := S.add huf
  have hug : ∀ x ∈ us, Good x.t := fun x hx => by
    cases hb : b0 with
    | false => rw [(hb2 hb).1] at hx; cases hx
    | true =>
      obtain ⟨hg, he⟩ := hb1 hb
      rw [he] at hg
      have key : ∀ l : List Term, Good (listT l) → ∀ y ∈ l, Good y := by
        intro l
        induction l with
        | nil => intro _ y hy; cases hy
        | cons a l ih =>
          intro hg y hy
          rcases List.mem_cons.1 hy with rfl | hy
          · exact good_kid hg (by simp)
          · exact ih (good_kid hg (by simp)) y hy
      exact key _ hg _ (List.mem_map.2 ⟨x, hx, rfl⟩)
  have hneg : ∀ l, okM l = true → t.t = writeT l → Good t.t → b0 = true ∧ us.map LTerm.t = l.map rowM := fun l _ he hg => by
    cases hb : b0 with
    | false => exact absurd hg ((hb2 hb).2 _ he)
    | true =>
      refine ⟨rfl, ?_⟩
      have key : ∀ a b : List Term, listT a = listT b → a = b := by
        intro a
        induction a with
        | nil => intro b h; cases b with
          | nil => rfl
          | cons y b => simp [listT, textT, Term.pair] at h
        | cons x a ih => intro b h; cases b with
          | nil => simp [listT, textT, Term.pair] at h
          | cons y b =>
            simp only [listT, Term.pair, Term.mk.injEq, List.cons.injEq, and_true, true_and] at h
            rw [h.1, ih b h.2]
      exact key _ _ (by rw [← (hb1 hb).2, he]; rfl)
  iterate 5 (refine sq S ?_; clear S; intro a S)
  refine wl_nil ?_
  refine xtn ?_
  refine c_seq ?_
  refine c_region ?_
  refine sq S ?_; clear S; intro a S
  refine wl_nil ?_
  refine xtn ?_
  iterate 2 (refine c_seq ?_)
  refine c_region ?_
  iterate 3 (refine sq S ?_; clear S; intro a S)
  refine wl_nil ?_
  refine xtn ?_
  refine c_block ?_
  replace S := S.addNil 36 2
  refine c_fore5 S (fun (k : Nat) (ok : Bool) (ms : List LMark) (po : Option Addr) (co : Nat) uu => [(2, uu 2), (0, uu 3), (1, .bool ok), (0, .slice po ms.length co), (1, uu 8), (0, uu 9), (0, uu 10), (0, uu 11), (7, .int .i64 (k : Nat)), (0, uu 20), (0, uu 21), (0, uu 22), (0, uu 23), (0, uu 24), (0, uu 25), (0, uu 26), (0, uu 27), (0, uu 28), (0, uu 29), (0, uu 30), (0, uu 31), (0, uu 32), (0, uu 33), (0, uu 34), (0, uu 35), (0, uu 36), (0, uu 37), (0, uu 38), (0, uu 39), (0, uu 40), (0, uu 41), (0, uu 42), (0, uu 43), (0, uu 44), (0, uu 45), (0, uu 46), (0, uu 47), (0, uu 48), (0, uu 49), (0, uu 50), (0, uu 51), (0, uu 52), (0, uu 53), (0, uu 54), (0, uu 55), (0, uu 56), (0, uu 57), (0, uu 58), (0, uu 59), (0, uu 60), (0, uu 61), (0, uu 62), (0, uu 63), (0, uu 64), (0, uu 65), (0, uu 66), (0, uu 67), (0, uu 68), (0, uu 69), (0, uu 70), (0, uu 71), (0, uu 72), (0, uu 73)]) (fun (k : Nat) (ok : Bool) (ms : List LMark) (po : Option Addr) (co : Nat) => [Wk.row 36 2 po ms.length co (encL ms), ext M]) (fun (k : Nat) (ok : Bool) (ms : List LMark) (po : Option Addr) (co : Nat) => [LsF pu 0 us, TabF, LibF, LtF t]) (fun (k : Nat) (ok : Bool) (ms : List LMark) (po : Option Addr) (co : Nat) => k ≤ us.length ∧ ms.length = k ∧ (ok = true → b0 = true ∧ (us.take k).map LTerm.t = ms.map rowM) ∧ ∀ l, okM l = true → us.map LTerm.t = l.map rowM → ok = b0 ∧ ms = l.take k) (fun (k : Nat) (ok : Bool) (ms : List LMark) (po : Option Addr) (co : Nat) => us.length - k) (0) (b0) ([]) (none) (0) ?_ S.uu ?_ ?_
  · exact ⟨Nat.zero_le _, rfl, fun h => ⟨h, rfl⟩, fun l _ _ => ⟨rfl, rfl⟩⟩
  · exact S.sub [Wk.row 36 2 none 0 0 [], ext M] [LsF pu 0 us, TabF, LibF, LtF t]
  · clear S; rintro k ok ms po co uu a w ⟨hk, hml, hpos, hne⟩ S
    refine c_seq ?_
    refine c_region ?_
    refine sq S ?_; clear S; intro a S
    refine wl_nil ?_
    refine xtn ?_
    refine c_seq ?_
    refine c_cond S (fun h4 => ?_) (fun h4 => ?_)
    · refine c_skip ?_
      refine xtn ?_
      refine c_seq ?_
      refine c_block ?_
      refine c_seq ?_
      have hkl : k < us.length := by simp at h4; omega
      have hK : KLt k us.length := ⟨hkl⟩
      have hgx := hug _ (nth_mem hkl)
      have hel : ∀ l, us.map LTerm.t = l.map rowM → k < l.length ∧ (nthL us k).t = rowM (nthG l k) := fun l h => by
        have hl : us.length = l.length := by have := congrArg List.length h; simpa using this
        refine ⟨by omega, ?_⟩
        have := congrArg (fun x => x[k]?) h
        simp only [List.getElem?_map, nth_get hkl, nthG_get (show k < l.length by omega), Option.map_some, Option.some.injEq] at this
        exact this
      have hfalse : (∀ l : List LMark, us.map LTerm.t = l.map rowM → False) → ∀ l, okM l = true → t.t = writeT l → ¬ Good t.t := fun h l h1 h2 h3 => h l (hneg l h1 h2 h3).2
      refine c_region ?_
      iterate 2 (refine sq S ?_; clear S; intro a S)
      refine sa S ?_; clear S; intro b8 a w S
      refine sw S ?_; clear S; intro a w S
      refine wl_nil ?_
      refine xtn ?_
      iterate 2 (refine c_seq ?_)
      refine c_region ?_
      iterate 4 (refine sq S ?_; clear S; intro a S)
      refine gS S (fun hg1 S => ?_) (fun hg1 S => ?_)
      · refine gF' S ?_; clear S; intro a S
        iterate 5 (refine gF' S ?_; clear S; intro a S)
        iterate 2 (refine sq S ?_; clear S; intro a S)
        iterate 6 (refine gF' S ?_; clear S; intro a S)
        refine sq S ?_; clear S; intro a S
        refine wl_nil ?_
        refine xtn ?_
        refine c_condT S ?_
        refine c_seq ?_
        refine c_region ?_
        iterate 2 (refine sq S ?_; clear S; intro a S)
        refine wl_nil ?_
        refine xtn ?_
        refine c_ret ?_
        refine xtr ?_
        refine xbr ?_
        iterate 2 (refine xtr ?_)
        refine xbr ?_
        refine xtr ?_
        have hk4 : (nthL us k).kind ≠ 4 := by simpa using hg1
        refine end2 S (fun _ => ?_)
        exact ⟨none, 0, [], 240, rfl, fun w' _ => gl_nil, Nat.le_refl _, fun h => absurd h (by decide), fun _ => ⟨rfl, rfl, hfalse fun l h => hk4 (rowM_kid (hel l h).2).1⟩⟩
      · refine gT' S ?_
        have hk4 : (nthL us k).kind = 4 := by simpa using hg1
        have hl2 := (good_pr hgx hk4).1
        have hK0 : KLt 0 (nthL us k).kids.length := ⟨by omega⟩
        have hK1 : KLt 1 (nthL us k).kids.length := ⟨by omega⟩
        refine sq S ?_; clear S; intro a S
        refine gT' S ?_
        refine sq S ?_; clear S; intro a S
        refine gT' S ?_
        refine sq S ?_; clear S; intro a S
        refine gT' S ?_
        refine sq S ?_; clear S; intro a S
        refine gT' S ?_
        refine sq S ?_; clear S; intro a S
        refine gT' S ?_
        iterate 3 (refine sq S ?_; clear S; intro a S)
        refine gS S (fun hg2 S => ?_) (fun hg2 S => ?_)
        · refine gF' S ?_; clear S; intro a S
          iterate 5 (refine gF' S ?_; clear S; intro a S)
          refine sq S ?_; clear S; intro a S
          refine wl_nil ?_
          refine xtn ?_
          refine c_condT S ?_
          refine c_seq ?_
          refine c_region ?_
          iterate 2 (refine sq S ?_; clear S; intro a S)
          refine wl_nil ?_
          refine xtn ?_
          refine c_ret ?_
          refine xtr ?_
          refine xbr ?_
          iterate 2 (refine xtr ?_)
          refine xbr ?_
          refine xtr ?_
          have hk0 : (nthL (nthL us k).kids 0).kind ≠ 1 := by simpa using hg2
          refine end2 S (fun _ => ?_)
          exact ⟨none, 0, [], 240, rfl, fun w' _ => gl_nil, Nat.le_refl _, fun h => absurd h (by decide), fun _ => ⟨rfl, rfl, hfalse fun l h => hk0 (rowM_kid (hel l h).2).2.2.1⟩⟩
        · refine gT' S ?_
          refine sq S ?_; clear S; intro a S
          refine gT' S ?_
          refine sq S ?_; clear S; intro a S
          refine gT' S ?_
          refine sq S ?_; clear S; intro a S
          refine gT' S ?_
          refine sq S ?_; clear S; intro a S
          refine gT' S ?_
          refine sq S ?_; clear S; intro a S
          refine gT' S ?_
          iterate 2 (refine sq S ?_; clear S; intro a S)
          refine wl_nil ?_
          refine xtn ?_
          refine c_cond S (fun h6 => ?_) (fun h6 => ?_)
          · refine c_seq ?_
            refine c_region ?_
            iterate 2 (refine sq S ?_; clear S; intro a S)
            refine wl_nil ?_
            refine xtn ?_
            refine c_ret ?_
            refine xtr ?_
            refine xbr ?_
            iterate 2 (refine xtr ?_)
            refine xbr ?_
            refine xtr ?_
            have hk1 : (nthL (nthL us k).kids 1).kind ≠ 1 := by simpa using h6
            refine end2 S (fun _ => ?_)
            exact ⟨none, 0, [], 240, rfl, fun w' _ => gl_nil, Nat.le_refl _, fun h => absurd h (by decide), fun _ => ⟨rfl, rfl, hfalse fun l h => hk1 (rowM_kid (hel l h).2).2.2.2.1⟩⟩
          · refine c_skip ?_
            refine xtn ?_
            refine c_seq ?_
            have hk0 : (nthL (nthL us k).kids 0).kind = 1 := by simpa using hg2
            have hk1 : (nthL (nthL us k).kids 1).kind = 1 := by simpa using h6
            have hlen : (nthL (nthL us k).kids 1).text.length ≤ 1000 := by
              have hg' := hgx
              rw [(good_pr hgx hk4).2] at hg'
              have h : Good (nthL (nthL us k).kids 1).t := good_kid hg' (by simp)
              rw [(nthL (nthL us k).kids 1).t_eq] at h
              rcases plain_shape (goodP h) with q | q | q | q | q | q | q
              all_goals omega
            refine c_region ?_
            iterate 6 (refine sq S ?_; clear S; intro a S)
            refine wl_nil ?_
            refine xtn ?_
            refine c_seq ?_
            refine c_region ?_
            refine sq S ?_; clear S; intro a S
            refine sr S (atoi_c (nthL (nthL us k).kids 1).text hlen _ (S.mem.fact0 LibF).now.2.1 (S.mem.fact0 LibF).now.2.2) ?_; clear S; rintro _ a w ⟨n, b, te, pe, rfl, hn, hb, hv⟩ S
            have hI : I64 n := ⟨hn.1, hn.2⟩
            iterate 5 (refine sq S ?_; clear S; intro a S)
            refine wl_nil ?_
            refine xtn ?_
            refine c_seq ?_
            refine c_region ?_
            iterate 2 (refine sq S ?_; clear S; intro a S)
            iterate 2 (refine gQ S ?_; clear S; intro a S)
            iterate 2 (refine sq S ?_; clear S; intro a S)
            refine gQ S ?_; clear S; intro a S
            refine gC S ?_; clear S; intro a w S
            iterate 2 (refine gQ S ?_; clear S; intro a S)
            iterate 2 (refine sq S ?_; clear S; intro a S)
            refine wl_nil ?_
            refine xtn ?_
            refine c_region ?_
            iterate 8 (refine sq S ?_; clear S; intro a S)
            refine sn S ?_; clear S; intro b71 a w S
            refine sap S (by simp [maxLen]; omega) (by omega) ?_; clear S; rintro p11 c11 a w - S
            rw [show encL ms ++ [str (nthL (nthL us k).kids 0).text, .int .i64 n] = encL (ms ++ [⟨(nthL (nthL us k).kids 0).text, n⟩]) from by rw [encL_append]; rfl, show ms.length + 1 = (ms ++ [(⟨(nthL (nthL us k).kids 0).text, n⟩ : LMark)]).length from by simp] at S
            refine sq S ?_; clear S; intro a S
            refine wl_nil ?_
            refine xbn ?_
            refine xtn ?_
            refine c_region ?_
            iterate 2 (refine sq S ?_; clear S; intro a S)
            refine wl_nil ?_
            refine xtn ?_
            have htk : (us.take (k + 1)).map LTerm.t = (us.take k).map LTerm.t ++ [(nthL us k).t] := by rw [List.take_add_one, nth_get hkl, List.map_append]; rfl
            rw [w64 ((k : Int) + 1) (by omega) (by omega)] at S
            refine ⟨k + 1, (ok && b && decide (Lib.itoa n = (nthL (nthL us k).kids 1).text)), ms ++ [(⟨(nthL (nthL us k).kids 0).text, n⟩ : LMark)], p11, c11, S.uu, ⟨hkl, by simp [hml], fun h => ?_, fun l h1 h2 => ?_⟩, S.sub _ _, by omega⟩
            · rw [Bool.and_eq_true, Bool.and_eq_true, decide_eq_true_iff] at h
              obtain ⟨q1, q2⟩ := hpos h.1.1
              refine ⟨q1, ?_⟩
              rw [htk, q2, List.map_append]
              have : (nthL us k).t = rowM ⟨(nthL (nthL us k).kids 0).text, n⟩ := rowM_of hgx hk4 hk0 hk1 rfl h.2.symm
              rw [this]; rfl
            · obtain ⟨q1, q2⟩ := hne l h1 h2
              obtain ⟨r1, r2⟩ := hel l h2
              obtain ⟨-, -, -, -, r3, r4⟩ := rowM_kid r2
              have hver := (okV l h1).2.1 _ (nthG_mem r1)
              have ha : Lib.atoiAll (nthL (nthL us k).kids 1).text = .ok (nthG l k).ver := by rw [r4]; exact atoi_itoa hver
              have hbt : b = true := hb.2 ⟨_, ha⟩
              have hnv := hv _ ha
              have hd : decide (Lib.itoa n = (nthL (nthL us k).kids 1).text) = true := by rw [hnv, r4]; simp
              refine ⟨by rw [q1, hbt, hd]; simp, ?_⟩
              rw [q2, nthG_take r1, r3, hnv]
    · refine c_exit ?_
      iterate 2 (refine xte ?_)
      refine xbe ?_
      refine xtn ?_
      iterate 2 (refine c_seq ?_)
      have hke : k = us.length := by simp at h4; omega
      have hLe : LeC ms.length 9223372036854775807 := ⟨by omega⟩
      have hrow := S.row po ms.length
      have hnew := S.rowNew po ms.length
      have hout : Stable M _ (GlF po ms) := gl_own hrow (fun _ _ _ _ => trivial) (fun ad h hm => (hnew ad h).elim (fun h => h.elim) (fun h2 => by have := hM _ hm; omega))
      have hcap : ms.length ≤ co := own_le hrow
      replace S := S.rowToGl (e := 36) (sz := 2) (n := ms.length) (c := co) po ms (fun _ _ _ _ => trivial)
      refine c_region ?_
      iterate 3 (refine sq S ?_; clear S; intro a S)
      refine gQ S ?_; clear S; intro a S
      refine gC S ?_; clear S; intro a w S
      refine gQ S ?_; clear S; intro a S
      refine sq S ?_; clear S; intro a S
      refine wl_nil ?_
      refine xtn ?_
      refine c_cond S (fun h13 => ?_) (fun h13 => ?_)
      · refine c_seq ?_
        refine c_region ?_
        iterate 2 (refine sq S ?_; clear S; intro a S)
        refine wl_nil ?_
        refine xtn ?_
        refine c_ret ?_
        refine xtr ?_
        refine end2 S (fun _ => ?_)
        refine ⟨none, 0, [], 240, rfl, fun w' _ => gl_nil, Nat.le_refl _, fun h => absurd h (by decide), fun _ => ⟨rfl, rfl, fun l h1 h2 h3 => ?_⟩⟩
        obtain ⟨q1, q2⟩ := hneg l h1 h2 h3
        obtain ⟨q3, q4⟩ := hne l h1 q2
        have hll : us.length = l.length := by have := congrArg List.length q2; simpa using this
        rw [List.take_of_length_le (by omega)] at q4
        rw [q3, q1, q4, tchkF, h1] at h13
        simp at h13
      · refine c_skip ?_
        refine xtn ?_
        refine c_seq ?_
        refine c_region ?_
        iterate 3 (refine sq S ?_; clear S; intro a S)
        refine wl_nil ?_
        refine xtn ?_
        refine c_ret ?_
        have hlat := S.wd.facts (GlF po ms) (by simp)
        have hok : ok = true ∧ okM ms = true := by
          rw [Bool.or_eq_false_iff] at h13
          refine ⟨by simpa using h13.1, ?_⟩
          cases h : okM ms with
          | true => rfl
          | false => have := h13.2; simp [tchkF, h] at this
        obtain ⟨q1, q2⟩ := hpos hok.1
        rw [List.take_of_length_le (by omega)] at q2
        refine end2 S (fun _ => ?_)
        exact ⟨po, co, ms, 0, rfl, hlat.less fun k _ hk => ⟨ext M, by simp, hk⟩, hcap, fun _ => ⟨hok.2, by rw [(hb1 q1).2, q2]; rfl, (hb1 q1).1⟩, fun h => absurd rfl h⟩
end Go.Proofs.YtmngicgdgpimlaaDoor
