/- 9: a part of this claim's texts, joined: RowWal WalLawK WalLawL WalLawM WalLawN RowWalB. -/
import Derived.Test.YthffheckghdelaaPc8
/- WalFills and WalAbsent answer true at every input and leave it as it was. No condition. -/
namespace Go.Proofs.Ythffheckghdelaa
open Go Go.Wk
open Go.ChangeShapes Go.WideShapes Go.ChangeAt Go.RowKit
set_option maxRecDepth 100000

instance troByte : Tro Try.prog 5 UInt8 := troB Try.underlying5 (by kernel_rfl)
instance troBytes : Tro Try.prog 35 (Sl UInt8) := troSl Try.underlying35 (by kernel_rfl)
theorem walfills_lifted (os : Os) (started : os.Started) (H : Type) (enc : TypeId × Value → H) :
    ReturnsInHanded {} Try.checked os 3 .any (Rows.walFillsSpec.pre6 enc Try.prog Try.f3 Rows.walFillsRow.domain false) (Rows.walFillsSpec.post enc Try.prog Try.f3 false true false false) := by
  refine returnsInHanded_of_change (C := Try.checked) own started (by kernel_rfl) Try.func3
    (ChangeSpec.witness6 (enc := enc) (C := Try.checked) false ⟨#[], #[.int .i64 0], []⟩ 8 (by kernel_rfl) (by kernel_rfl) (by kernel_rfl) (by kernel_rfl)) ?_
  intro W base args ds gs before hval0 hW _ _
  have hval : ∀ (j : Nat) t v, Try.f3.params[j]? = some t → args[j]? = some v → Value.okWide Try.prog W .any base t v := hval0
  have hW2 := hW
  obtain ⟨p, q, hA0, hV, rfl, _, _⟩ := hW
  have hA : DataW.TrodAll enc Try.prog W 0 (fun _ => true) true Try.f3.params.toList args.toList ds p := hA0
  rw [Try.params3] at hA hval
  obtain ⟨v0, d0, rfl, rfl, h0⟩ := trodAll_one hA
  obtain ⟨rfl, rfl⟩ := trodVars_none hV
  obtain ⟨n, rfl, rfl, rfl, wn⟩ := open_int Try.underlying3 (hval 0 3 v0 rfl rfl) h0
  refine Ret.law (walfills_c n W) fun W1 hag => ?_
  exact ⟨_, rfl, law_post (B := 4) laidOut (by kernel_rfl) rfl rfl rfl hW2 rfl rfl rfl hag⟩
theorem walfills_holds : Rows.WalFillsSaid :=
  OpenClaim.holds_of_wide 3 Try.f3 rfl rfl rfl rfl rfl rfl rfl ⟨rfl, rfl, rfl, rfl, rfl⟩ rfl rfl rfl rfl rfl (by kernel_rfl) Try.func3 (by kernel_rfl)
    (of_decide_eq_true (by kernel_rfl)) (by unfold Func.isWrapper; rw [if_neg (of_decide_eq_false (by kernel_rfl))]; exact ⟨rfl, rfl⟩)
    (fun os started H enc _ => walfills_lifted os started H enc)
theorem walabsent_lifted (os : Os) (started : os.Started) (H : Type) (enc : TypeId × Value → H) :
    ReturnsInHanded {} Try.checked os 5 .any (Rows.walAbsentSpec.pre6 enc Try.prog Try.f5 Rows.walAbsentRow.domain false) (Rows.walAbsentSpec.post enc Try.prog Try.f5 false true false false) := by
  refine returnsInHanded_of_change (C := Try.checked) own started (by kernel_rfl) Try.func5
    (ChangeSpec.witness6 (enc := enc) (C := Try.checked) false ⟨#[], #[.slice none 0 0, .int .i64 0], []⟩ 8 (by kernel_rfl) (by kernel_rfl) (by kernel_rfl) (by kernel_rfl)) ?_
  intro W base args ds gs before hval0 hW _ _
  have hval : ∀ (j : Nat) t v, Try.f5.params[j]? = some t → args[j]? = some v → Value.okWide Try.prog W .any base t v := hval0
  have hW2 := hW
  obtain ⟨p, q, hA0, hV, rfl, _, _⟩ := hW
  have hA : DataW.TrodAll enc Try.prog W 0 (fun _ => true) true Try.f5.params.toList args.toList ds p := hA0
  rw [Try.params5] at hA hval
  obtain ⟨v0, v1, d0, d1, p0, p1, rfl, rfl, rfl, h0, h1⟩ := trodAll_two hA
  obtain ⟨rfl, rfl⟩ := trodVars_none hV
  obtain ⟨x, rfl, l_x, m_x, h_x⟩ := slice_of_Trod (α := UInt8) Try.underlying35 h0 (hval 0 35 v0 rfl rfl)
  obtain ⟨n, rfl, rfl, rfl, wn⟩ := open_int Try.underlying3 (hval 1 3 v1 rfl rfl) h1
  refine Ret.law (walabsent_c ⟨x.p, x.cap, x.xs⟩ n W) fun W1 hag => ?_
  exact ⟨_, rfl, law_post (B := 4) laidOut (by kernel_rfl) rfl rfl rfl hW2 rfl rfl rfl hag⟩
theorem walabsent_holds : Rows.WalAbsentSaid :=
  OpenClaim.holds_of_wide 5 Try.f5 rfl rfl rfl rfl rfl rfl rfl ⟨rfl, rfl, rfl, rfl, rfl⟩ rfl rfl rfl rfl rfl (by kernel_rfl) Try.func5 (by kernel_rfl)
    (of_decide_eq_true (by kernel_rfl)) (by unfold Func.isWrapper; rw [if_neg (of_decide_eq_false (by kernel_rfl))]; exact ⟨rfl, rfl⟩)
    (fun os started H enc _ => walabsent_lifted os started H enc)
end Go.Proofs.Ythffheckghdelaa

/- The laws of layer 4: what has room is taken down. -/
namespace Go.Proofs.Ythffheckghdelaa
open Go Go.Wk
set_option synthInstance.maxSize 100000
set_option synthInstance.maxHeartbeats 400000
set_option maxRecDepth 100000

theorem areaN_le (area : Int) : 4 ≤ areaN area ∧ areaN area ≤ 23 := by unfold areaN; omega
theorem lg_broken (b g : Nat) (L : LG) (n : Nat) (t : Int) (said : List (List UInt8)) (h : LgOk L n t said) (w0 : World) (hd : (lgI b g L).holds w0) : Ret Try.prog 20 [.pointer (some ⟨g, 0, none⟩)] w0 (fun _ => False) fun v _ => v = .bool false := by
  rw [← h.broken]
  exact wbroken_c g b L.q L.e L.x w0 (BoxF.stable hd.2.1.1 (fun h => h))
theorem endF_next (t : Int) (said : List (List UInt8)) (ck : Bool) (bs : List UInt8) : endF (nextT ck t) (nextS ck said bs) = (if ck then 0 else endF t said) + secN bs.length := by
  rw [endF_sum, endF_sum]
  unfold nextS
  cases ck
  · simp
  · simp
theorem walroom_c (area : Int) (pl : Option Addr) (cl : Nat) (acts : List LAct) (_hal : acts.length ≤ maxLen) (w0 : World) (f0 : Stable (fun _ => False) w0 (GlF pl acts)) : Ret Try.prog 4 [.int .i64 area, .slice pl acts.length cl] w0 (fun _ => False) fun v _ => v = .bool true := by
  have hna := areaN_le area
  refine enter Try.func4 rfl rfl (Wd.begin (fs := [GlF pl acts]) (by simpa using f0)) (fun a S => ?_)
  simp only [Try.ntmps4, List.length_cons, List.length_nil, Nat.reduceAdd, Nat.reduceSub, List.replicate_succ, List.replicate_zero, List.cons_append, List.nil_append] at S
  refine c_seq ?_
  refine c_region ?_
  refine sq S ?_; clear S; intro a S
  refine wl_nil ?_
  refine xtn ?_
  iterate 2 (refine c_seq ?_)
  refine c_region ?_
  refine sr S (wakes_c _) ?_; clear S; rintro _ a w rfl S
  refine sq S ?_; clear S; intro a S
  refine wl_nil ?_
  refine xtn ?_
  refine c_condF S ?_
  refine c_skip ?_
  refine xtn ?_
  refine c_seq ?_
  refine c_region ?_
  refine sq S ?_; clear S; intro a S
  refine sr S (length_c area _) ?_; clear S; rintro _ a w rfl S
  obtain ⟨n, hn⟩ : ∃ n, n = areaN area := ⟨_, rfl⟩
  rw [← hn] at S hna
  refine sq S ?_; clear S; intro a S
  refine wl_nil ?_
  refine xtn ?_
  refine c_seq ?_
  refine c_region ?_
  refine sq S ?_; clear S; intro a S
  refine snew S (fresh_l n (by omega) _) ?_; clear S; rintro _ a w - ⟨b, g, L, rfl, hok, hoff, hh, hnw⟩ hS -
  have S := hS (lgI b g L) hh hnw
  clear hS
  iterate 5 (refine sq S ?_; clear S; intro a S)
  refine wl_nil ?_
  refine xtn ?_
  iterate 2 (refine c_seq ?_)
  refine c_region ?_
  iterate 2 (refine sq S ?_; clear S; intro a S)
  refine wl_nil ?_
  refine xtn ?_
  refine c_condF S ?_
  refine c_skip ?_
  refine xtn ?_
  refine c_seq ?_
  refine c_region ?_
  iterate 4 (refine sq S ?_; clear S; intro a S)
  refine wl_nil ?_
  refine xtn ?_
  iterate 2 (refine c_seq ?_)
  refine c_region ?_
  iterate 3 (refine sq S ?_; clear S; intro a S)
  refine wl_nil ?_
  refine xtn ?_
  refine c_block ?_
  rw [show IntKind.i64.wrap ((n : Int) - 1) = (n : Int) - (endF 0 [[]] : Int) from by rw [w64 _ (by omega) (by omega), endF_sum]; rfl] at S
  refine c_fore4 S (fun (i : Nat) (L1 : LG) (t1 : Int) (said1 : List (List UInt8)) uu => [(4, uu 4), (3, .int .i64 ((n : Int) - (endF t1 said1 : Int))), (0, .int .u32 t1), (0, uu 10), (0, uu 11), (0, uu 12), (0, uu 13), (0, uu 14), (15, .int .i64 (i : Nat)), (0, uu 31), (0, uu 32), (0, uu 33), (0, uu 34), (0, uu 35), (0, uu 36), (0, uu 37), (0, uu 38), (0, uu 39), (0, uu 40), (0, uu 41), (0, uu 42), (0, uu 43), (0, uu 44), (0, uu 45), (0, uu 46), (0, uu 47), (0, uu 48), (0, uu 49), (0, uu 50), (0, uu 51), (0, uu 52), (0, uu 53), (0, uu 54), (0, uu 55), (0, uu 56), (0, uu 57), (0, uu 58), (0, uu 59), (0, uu 60), (0, uu 61), (0, uu 62), (0, uu 63), (0, uu 64), (0, uu 65), (0, uu 66), (0, uu 67), (0, uu 68), (0, uu 69), (0, uu 70), (0, uu 71), (0, uu 72), (0, uu 73), (0, uu 74), (0, uu 75), (0, uu 76), (0, uu 77), (0, uu 78), (0, uu 79), (0, uu 80), (0, uu 81), (0, uu 82), (0, uu 83), (0, uu 84), (0, uu 85), (0, uu 86), (0, uu 87), (0, uu 88), (0, uu 89), (0, uu 90)]) (fun (i : Nat) (L1 : LG) (t1 : Int) (said1 : List (List UInt8)) => [lgI b g L1]) (fun (i : Nat) (L1 : LG) (t1 : Int) (said1 : List (List UInt8)) => [GlF pl acts]) (fun (i : Nat) (L1 : LG) (t1 : Int) (said1 : List (List UInt8)) => i ≤ acts.length ∧ i ≤ 20 ∧ t1 ≤ i ∧ LgOk L1 n t1 said1 ∧ L1.s.arms.on = false) (fun (i : Nat) (L1 : LG) (t1 : Int) (said1 : List (List UInt8)) => acts.length - i) (0) (L) (0) ([[]]) ?_ S.uu ?_ ?_
  · exact ⟨Nat.zero_le _, by omega, by omega, hok, hoff⟩
  · first | exact S | exact S.sub _ _
  · clear S; rintro i L1 t1 said1 uu a w ⟨hi, hi20, ht1, hL1, ha1⟩ S
    refine c_seq ?_
    refine c_region ?_
    refine sq S ?_; clear S; intro a S
    refine wl_nil ?_
    refine xtn ?_
    refine c_seq ?_
    refine c_cond S (fun h9 => ?_) (fun h9 => ?_)
    · refine c_skip ?_
      refine xtn ?_
      refine c_seq ?_
      refine c_block ?_
      refine c_seq ?_
      have hi2 : i < acts.length := by have := of_decide_eq_true h9; omega
      have hK : KLt i acts.length := ⟨hi2⟩
      obtain ⟨x, hx⟩ : ∃ x, x = nthG acts i := ⟨_, rfl⟩
      obtain ⟨tail1, hlive1, _⟩ := hL1.live
      have hen := hlive1.len
      have htt := hlive1.ht
      refine c_region ?_
      iterate 3 (refine sq S ?_; clear S; intro a S)
      rw [← hx] at S
      refine sa S ?_; clear S; intro b11 a w S
      refine sq S ?_; clear S; intro a S
      refine sw S ?_; clear S; intro a w S
      refine wl_nil ?_
      refine xtn ?_
      iterate 2 (refine c_seq ?_)
      refine c_region ?_
      iterate 2 (refine sq S ?_; clear S; intro a S)
      refine wl_nil ?_
      refine xtn ?_
      refine c_cond S (fun h11 => ?_) (fun h11 => ?_)
      · refine c_exit ?_
        refine xte ?_
        refine xbx ?_
        iterate 2 (refine xte ?_)
        refine xbe ?_
        refine xtn ?_
        refine c_seq ?_
        refine c_region ?_
        refine sq S ?_; clear S; intro a S
        refine wl_nil ?_
        refine xtn ?_
        refine c_ret ?_
        exact end1 S (fun _ => rfl)
      · refine c_skip ?_
        refine xtn ?_
        refine c_seq ?_
        refine c_region ?_
        refine sq S ?_; clear S; intro a S
        have hi21 : i < 20 := by have := of_decide_eq_false h11; omega
        refine sr S (taking_c x _) ?_; clear S; rintro _ a w rfl S
        obtain ⟨x2, hx2⟩ : ∃ x2, x2 = takingF x := ⟨_, rfl⟩
        rw [← hx2] at S
        have hbl := bytesF_le x2
        refine sw S ?_; clear S; intro a w S
        refine wl_nil ?_
        refine xtn ?_
        refine c_seq ?_
        refine c_region ?_
        refine sq S ?_; clear S; intro a S
        refine snew S (bytes_l x2 _) ?_; clear S; rintro _ a w - ⟨y, rfl, hy, hhy, hny⟩ hS -
        have S := hS (entI [y]) hhy hny
        clear hS
        refine sq S ?_; clear S; intro a S
        rw [hy] at S
        refine sr S (sectors_c ((bytesF x2).length : Int) _) ?_; clear S; rintro _ a w rfl S
        iterate 3 (refine sq S ?_; clear S; intro a S)
        refine wl_nil ?_
        refine xtn ?_
        refine c_mrge1 S (fun (rm : Int) uu => [(13, .int .i64 rm), (30, uu 44), (0, uu 45), (0, uu 46), (0, uu 47)]) (fun (rm : Int) => [Wk.box b11 33 (cAct x2), lgI b g L1]) (fun (rm : Int) => [GlF pl acts]) (fun (rm : Int) => rm = if ckF x2 then (n : Int) else (n : Int) - (endF t1 said1 : Int)) ?_ ?_
        · refine c_seq ?_
          refine c_region ?_
          refine sq S ?_; clear S; intro a S
          refine sr S (kind_c x2 _) ?_; clear S; rintro _ a w rfl S
          refine sq S ?_; clear S; intro a S
          refine wl_nil ?_
          refine xtn ?_
          refine c_cond S (fun h14 => ?_) (fun h14 => ?_)
          · refine c_region ?_
            iterate 2 (refine sq S ?_; clear S; intro a S)
            refine wl_nil ?_
            refine xtn ?_
            have hck : ckF x2 = true := h14
            exact ⟨(n : Int), S.uu, by rw [hck]; rfl, S.sub _ _⟩
          · refine c_skip ?_
            refine xtn ?_
            have hck : ckF x2 = false := h14
            exact ⟨(n : Int) - (endF t1 said1 : Int), S.uu, by rw [hck]; rfl, S.sub _ _⟩
        · clear S; rintro rm uu a w hrm S
          refine c_seq ?_
          refine c_region ?_
          refine sq S ?_; clear S; intro a S
          refine wl_nil ?_
          refine xtn ?_
          refine c_mrge3 S (fun (want : Int) (lf : Int) (tn : Int) uu => [(8, .int .i64 lf), (0, .int .u32 tn), (4, .int .i64 want), (33, uu 48), (0, uu 49), (0, uu 50), (0, uu 51), (0, uu 52), (0, uu 53), (0, uu 54), (0, uu 55), (0, uu 56), (0, uu 57), (0, uu 58), (0, uu 59), (0, uu 60), (0, uu 61), (0, uu 62), (0, uu 63), (0, uu 64), (0, uu 65), (0, uu 66), (0, uu 67), (0, uu 68)]) (fun (want : Int) (lf : Int) (tn : Int) => [Wk.box b11 33 (cAct x2), lgI b g L1]) (fun (want : Int) (lf : Int) (tn : Int) => [GlF pl acts]) (fun (want : Int) (lf : Int) (tn : Int) => want = wantF n t1 said1 (ckF x2) (bytesF x2) ∧ (want ≠ 0 → lf = (n : Int) - (endF t1 said1 : Int) ∧ tn = t1) ∧ (want = 0 → lf = (n : Int) - (endF (nextT (ckF x2) t1) (nextS (ckF x2) said1 (bytesF x2)) : Int) ∧ tn = nextT (ckF x2) t1)) ?_ ?_
          · refine c_block ?_
            refine c_seq ?_
            refine c_region ?_
            refine sq S ?_; clear S; intro a S
            refine snew S (bytes_l x2 _) ?_; clear S; rintro _ a w - ⟨y2, rfl, hy2, hhy2, hny2⟩ hS -
            have S := hS (entI [y2]) hhy2 hny2
            clear hS
            refine sq S ?_; clear S; intro a S
            rw [hy2] at S
            iterate 2 (refine sq S ?_; clear S; intro a S)
            refine wl_nil ?_
            refine xtn ?_
            refine c_cond S (fun h18 => ?_) (fun h18 => ?_)
            · refine c_region ?_
              refine sq S ?_; clear S; intro a S
              refine wl_nil ?_
              refine xbn ?_
              refine xtn ?_
              have h3 : 40000 < (bytesF x2).length := by have := of_decide_eq_true h18; omega
              have hw : wantF n t1 said1 (ckF x2) (bytesF x2) = 3 := by rw [wantF, if_pos h3]
              exact ⟨3, (n : Int) - (endF t1 said1 : Int), t1, S.uu, ⟨hw.symm, fun _ => ⟨rfl, rfl⟩, fun h => by cases h⟩, S.sub _ _⟩
            · refine c_seq ?_
              have h3 : ¬ 40000 < (bytesF x2).length := by have := of_decide_eq_false h18; omega
              have hsf := secF_nat (bytesF x2).length (by omega)
              have hwq : wantF n t1 said1 (ckF x2) (bytesF x2) = if rm < (secN (bytesF x2).length : Int) then 6 else 0 := by
                rw [wantF, if_neg h3, hrm]
                cases ckF x2
                · rw [if_neg Bool.false_ne_true, if_neg Bool.false_ne_true]; congr 1; exact propext ⟨fun h => by omega, fun h => by omega⟩
                · rw [if_pos rfl, if_pos rfl]; congr 1; exact propext ⟨fun h => by omega, fun h => by omega⟩
              refine c_region ?_
              iterate 4 (refine sq S ?_; clear S; intro a S)
              refine wl_nil ?_
              refine xtn ?_
              refine c_cond S (fun h20 => ?_) (fun h20 => ?_)
              · refine c_region ?_
                refine sq S ?_; clear S; intro a S
                refine wl_nil ?_
                refine xbn ?_
                refine xtn ?_
                have h6 : rm < (secN (bytesF x2).length : Int) := by rw [← hsf]; exact of_decide_eq_true h20
                rw [if_pos h6] at hwq
                exact ⟨6, (n : Int) - (endF t1 said1 : Int), t1, S.uu, ⟨hwq.symm, fun _ => ⟨rfl, rfl⟩, fun h => by cases h⟩, S.sub _ _⟩
              · refine c_seq ?_
                have h6 : ¬ rm < (secN (bytesF x2).length : Int) := by rw [← hsf]; exact of_decide_eq_false h20
                rw [if_neg h6] at hwq
                have hnx := endF_next t1 said1 (ckF x2) (bytesF x2)
                refine c_region ?_
                refine sq S ?_; clear S; intro a S
                refine sr S (kind_c x2 _) ?_; clear S; rintro _ a w rfl S
                iterate 2 (refine sq S ?_; clear S; intro a S)
                refine wl_nil ?_
                refine xtn ?_
                refine c_cond S (fun h22 => ?_) (fun h22 => ?_)
                · refine c_region ?_
                  iterate 2 (refine sq S ?_; clear S; intro a S)
                  have hck : ckF x2 = true := h22
                  rw [hck] at hrm hnx
                  rw [if_pos rfl] at hrm hnx
                  refine sq S ?_; clear S; intro a S
                  rw [show IntKind.i64.wrap ((n : Int) - secF ((bytesF x2).length : Int)) = (n : Int) - secF ((bytesF x2).length : Int) from by rw [w64 _ (by omega) (by omega)]] at S
                  iterate 2 (refine sq S ?_; clear S; intro a S)
                  rw [wu32 (t1 + 1) (by omega) (by omega)] at S
                  iterate 2 (refine sq S ?_; clear S; intro a S)
                  refine wl_nil ?_
                  refine xbn ?_
                  refine xtn ?_
                  exact ⟨0, (n : Int) - secF ((bytesF x2).length : Int), t1 + 1, S.uu, ⟨hwq.symm, fun h => absurd rfl h, fun _ => ⟨by rw [hck, hnx]; omega, by rw [hck]; rfl⟩⟩, S.sub _ _⟩
                · refine c_region ?_
                  iterate 2 (refine sq S ?_; clear S; intro a S)
                  have hck : ckF x2 = false := h22
                  rw [hck] at hrm hnx
                  rw [if_neg Bool.false_ne_true] at hrm hnx
                  refine sq S ?_; clear S; intro a S
                  rw [show IntKind.i64.wrap ((n : Int) - (endF t1 said1 : Int) - secF ((bytesF x2).length : Int)) = (n : Int) - (endF t1 said1 : Int) - secF ((bytesF x2).length : Int) from by rw [w64 _ (by omega) (by omega)]] at S
                  refine sq S ?_; clear S; intro a S
                  refine wl_nil ?_
                  refine xbn ?_
                  refine xtn ?_
                  exact ⟨0, (n : Int) - (endF t1 said1 : Int) - secF ((bytesF x2).length : Int), t1, S.uu, ⟨hwq.symm, fun h => absurd rfl h, fun _ => ⟨by rw [hck, hnx]; omega, by rw [hck]; rfl⟩⟩, S.sub _ _⟩
          · clear S; rintro want lf tn uu a w ⟨hwant, hlf1, hlf2⟩ S
            refine c_seq ?_
            refine c_region ?_
            iterate 2 (refine sq S ?_; clear S; intro a S)
            refine sit (lgI b g L1) S (take_l b g L1 n t1 said1 x2 hL1 (by omega) _ (S.it (lgI b g L1))) rfl ?_; clear S; rintro _ a w ⟨L2, e, rfl, hh2, hn2, hR⟩ hS
            have S := hS (lgI b g L2) hh2 hn2
            clear hS
            obtain ⟨t2, said2, he, hL2, ha2, hlf, htn, ht2⟩ : ∃ t2 said2, e = want ∧ LgOk L2 n t2 said2 ∧ L2.s.arms.on = false ∧ lf = (n : Int) - (endF t2 said2 : Int) ∧ tn = t2 ∧ t2 ≤ t1 + 1 := by
              rcases wantF_off hR ha1 hL1 with ⟨q1, q2, rfl⟩ | ⟨q1, q2, q3, q4, q5⟩
              · have hw0 : want ≠ 0 := by rw [hwant, ← q2]; exact q1
                exact ⟨t1, said1, by rw [hwant, q2], hL1, ha1, (hlf1 hw0).1, (hlf1 hw0).2, by omega⟩
              · have hw0 : want = 0 := by rw [hwant, q2]
                exact ⟨_, _, by rw [q1, hw0], q4, q5, (hlf2 hw0).1, (hlf2 hw0).2, by unfold nextT; split <;> omega⟩
            subst he
            iterate 2 (refine sq S ?_; clear S; intro a S)
            rw [show (!decide (e = e)) = false from by simp] at S
            refine sq S ?_; clear S; intro a S
            refine gT' S ?_
            refine sq S ?_; clear S; intro a S
            refine gT' S ?_
            refine sr S (lg_left b g L2 n t2 said2 hL2 _ (S.it (lgI b g L2))) ?_; clear S; rintro _ a w rfl S
            refine gT' S ?_
            refine sq S ?_; clear S; intro a S
            refine gT' S ?_
            refine sq S ?_; clear S; intro a S
            rw [show (!decide ((n : Int) - (endF t2 said2 : Int) = lf)) = false from by simp [hlf]] at S
            iterate 2 (refine sq S ?_; clear S; intro a S)
            refine gT' S ?_
            refine sq S ?_; clear S; intro a S
            refine gT' S ?_
            refine sr S (lg_turn b g L2 n t2 said2 hL2 _ (S.it (lgI b g L2))) ?_; clear S; rintro _ a w rfl S
            refine gT' S ?_
            refine sq S ?_; clear S; intro a S
            refine gT' S ?_
            refine sq S ?_; clear S; intro a S
            rw [show (!decide (t2 = tn)) = false from by simp [htn]] at S
            iterate 2 (refine sq S ?_; clear S; intro a S)
            refine gT' S ?_
            refine sq S ?_; clear S; intro a S
            refine gT' S ?_
            refine sr S (lg_broken b g L2 n t2 said2 hL2 _ (S.it (lgI b g L2))) ?_; clear S; rintro _ a w rfl S
            refine sq S ?_; clear S; intro a S
            refine wl_nil ?_
            refine xtn ?_
            refine c_condF S ?_
            refine c_skip ?_
            refine xbn ?_
            refine xtn ?_
            refine c_region ?_
            iterate 2 (refine sq S ?_; clear S; intro a S)
            refine wl_nil ?_
            refine xtn ?_
            rw [w64 ((i : Int) + 1) (by omega) (by omega), hlf, htn] at S
            exact ⟨i + 1, L2, t2, said2, S.uu, ⟨hi2, by omega, by omega, hL2, ha2⟩, S.sub _ _, by omega⟩
    · refine c_exit ?_
      iterate 2 (refine xte ?_)
      refine xbe ?_
      refine xtn ?_
      refine c_seq ?_
      refine c_region ?_
      refine sq S ?_; clear S; intro a S
      refine wl_nil ?_
      refine xtn ?_
      refine c_ret ?_
      exact end1 S (fun _ => rfl)
end Go.Proofs.Ythffheckghdelaa

/- The laws of layer 4: which loose writes stay; what is found. -/
namespace Go.Proofs.Ythffheckghdelaa
open Go Go.Wk
set_option synthInstance.maxSize 100000
set_option synthInstance.maxHeartbeats 400000
set_option maxRecDepth 100000

instance nz14 : NZ 14 := ⟨by decide⟩
instance nz27 : NZ 27 := ⟨by decide⟩
instance nz22 : NZ 22 := ⟨by decide⟩
instance nz6 : NZ 6 := ⟨by decide⟩
def keptF (x : LAct) : List Bool := x.keep.take (min x.keep.length 100)
theorem kept_c (x : LAct) (hc : x.keep.length ≤ x.c) (w0 : World) (f0 : Stable (fun _ => False) w0 (GlF x.p x.keep)) : Ret Try.prog 36 [.agg ⟨cAct x⟩] w0 (fun _ => False) fun v w' => ∃ p c, v = .slice p (keptF x).length c ∧ Stable (fun k => k < w0.heap.size) w' (GlF p (keptF x)) := by
  have hle : LeC (min x.keep.length 100) x.c := ⟨by omega⟩
  have hN : LenN (keptF x) (min x.keep.length 100) := ⟨by rw [keptF, List.length_take]; omega⟩
  refine enter Try.func36 rfl rfl (Wd.begin (fs := [GlF x.p x.keep]) (by simpa using f0)) (fun a S => ?_)
  simp only [Try.ntmps36, List.length_cons, List.length_nil, Nat.reduceAdd, Nat.reduceSub, List.replicate_succ, List.replicate_zero, List.cons_append, List.nil_append] at S
  refine c_seq ?_
  refine c_region ?_
  refine sa S ?_; clear S; intro b1 a w S
  refine sq S ?_; clear S; intro a S
  refine wl_nil ?_
  refine xtn ?_
  refine c_seq ?_
  refine c_region ?_
  refine sn S ?_; clear S; intro b3 a w S
  replace S := S.boxRow b3 1 0 rfl (by decide)
  replace S := S.add (Φ := GlF x.p (keptF x)) ((S.mem.fact (GlF x.p x.keep)).imp fun _ h => h.take _)
  iterate 7 (refine sq S ?_; clear S; intro a S)
  refine sap S (by simp only [maxLen]; omega) (by omega) ?_; clear S; rintro p8 c8 a w - S
  rw [List.nil_append, Nat.zero_add, ← hN.eq] at S
  refine sq S ?_; clear S; intro a S
  refine wl_nil ?_
  refine xtn ?_
  refine c_ret ?_
  have hrow := S.row p8 (keptF x).length
  have hnew := S.rowNew p8 (keptF x).length
  refine end1 S (fun _ => ?_)
  exact ⟨p8, c8, rfl, gl_own hrow (fun _ _ _ _ => trivial) (fun ad hp hm => by have := (hnew ad hp).elim (fun h => h.elim) id; omega)⟩
theorem crash_foot {b m : Nat} {p : Option Addr} {c : Nat} {s : DS} {l : List Bool} : ∀ k, (dkI b m none 0 (crashD l s)).foot k → (dkI b m p c s).foot k := fun k hk => by
  rcases hk with h | h | h
  · exact .inl h
  · exact .inr (.inl h)
  · obtain ⟨ad, h, -⟩ := h; cases h
theorem Able.on {s : DS} {n : Nat} {t : Int} {said : List (List UInt8)} (h : Able s n t said) : s.out = false := by obtain ⟨_, hl, _⟩ := h; exact hl.up.on
theorem Able.arm {s : DS} {n : Nat} {t : Int} {said : List (List UInt8)} (h : Able s n t said) (k : Int) : Able (armD s k) n t said := by
  obtain ⟨tail, hl, h1, h2⟩ := h
  exact ⟨tail, arm_live hl k, h1, h2⟩
theorem Live.arm {s : DS} {n : Nat} {t : Int} {said : List (List UInt8)} (h : Live s n t said) (k : Int) : Live (armD s k) n t said := by
  obtain ⟨tail, hl, h1⟩ := h
  exact ⟨tail, arm_live hl k, h1⟩
theorem Clean.arm {s : DS} {n : Nat} {t : Int} {said : List (List UInt8)} (h : Clean s n t said) (k : Int) : Clean (armD s k) n t said := by
  obtain ⟨r, hl⟩ := h
  exact ⟨r, arm_live hl k⟩
theorem Live.crash {s : DS} {n : Nat} {t : Int} {said : List (List UInt8)} (h : Live s n t said) (l : List Bool) : Live (crashD l s) n t said := by
  obtain ⟨tail, hl, h1⟩ := h
  exact ⟨tail, crash_live l hl, h1⟩
def LG.arm (L : LG) (k : Int) : LG := { L with s := armD L.s k }
theorem LgOk.arm {L : LG} {n : Nat} {t : Int} {said : List (List UInt8)} (h : LgOk L n t said) (k : Int) : LgOk (L.arm k) n t said := ⟨h.num, h.turn, h.says, h.fin, h.broken, h.live.arm k⟩
theorem arm_off {s : DS} (h : s.out = false) {k : Int} (hk : k < 0) : (armD s k).arms.on = false := by
  rw [armD, if_neg (by rw [h]; exact Bool.false_ne_true)]
  show (setC k).on = false
  rw [setC]; exact decide_eq_false (by omega)
theorem open_v (b m : Nat) (p : Option Addr) (c : Nat) (s : DS) (n : Nat) (t : Int) (said : List (List UInt8)) (h : Able s n t said) (w0 : World) (hd : (dkI b m p c s).holds w0) :
    Ret Try.prog 22 [.pointer (some ⟨b, 0, none⟩)] w0 (dkI b m p c s).foot fun v w' => ∃ (e : Int) (pv : Option Addr) (X : Wk.Item) (_ : ItOk X), v = .tuple ⟨[.pointer pv, .int .i64 e]⟩ ∧ X.own = true ∧ X.holds w' ∧ (∀ k, X.foot k → (dkI b m p c s).foot k ∨ w0.heap.size ≤ k) ∧
      ((e = 0 ∧ ∃ g L, pv = some ⟨g, 0, none⟩ ∧ X = lgI b g L ∧ L.m = m ∧ LgOk L n t said ∧ Clean L.s n t said) ∨ (e = 9 ∧ ∃ p' c' s', pv = none ∧ X = dkI b m p' c' s' ∧ s'.loose.length ≤ 1000 ∧ ∀ keep, Able (crashD keep s') n t said)) := by
  refine (open_l b m p c s n t said h w0 hd).mono fun v w' => ?_
  rintro (⟨g, L, rfl, hm, hh, hf, hok, hcl, -, -⟩ | ⟨-, -, p', c', s', rfl, hh, hf, -, hl, hk⟩)
  · exact ⟨0, some ⟨g, 0, none⟩, lgI b g L, inferInstance, rfl, rfl, hh, hf, .inl ⟨rfl, g, L, rfl, rfl, hm, hok, hcl⟩⟩
  · exact ⟨9, none, dkI b m p' c' s', inferInstance, rfl, rfl, hh, hf, .inr ⟨rfl, p', c', s', rfl, rfl, hl, hk⟩⟩
theorem keep_fact {x : LAct} {M : Nat → Prop} {w : World} {pl : Option Addr} {acts : List LAct} (hx : x ∈ acts) (h : Stable M w (GlF pl acts)) : x.keep.length ≤ x.c ∧ Stable M w (GlF x.p x.keep) := ⟨(h.now.2 x hx).1, h.imp fun _ h => (h.2 x hx).2.2⟩
theorem found_c (b m : Nat) (p : Option Addr) (c : Nat) (s : DS) (n : Nat) (t : Int) (said : List (List UInt8)) (pl : Option Addr) (cl : Nat) (cuts : List LAct) (h : Able s n t said) (ha : s.arms.on = false) (_hal : cuts.length ≤ maxLen) (w0 : World) (hd : (dkI b m p c s).holds w0) (f0 : Stable (dkI b m p c s).foot w0 (GlF pl cuts)) :
    Ret Try.prog 37 [.pointer (some ⟨b, 0, none⟩), .slice pl cuts.length cl] w0 (dkI b m p c s).foot fun v w' => ∃ g L, v = .pointer (some ⟨g, 0, none⟩) ∧ L.m = m ∧ (lgI b g L).holds w' ∧ (∀ k, (lgI b g L).foot k → (dkI b m p c s).foot k ∨ w0.heap.size ≤ k) ∧ LgOk L n t said ∧ Clean L.s n t said ∧ L.s.arms.on = false := by
  refine enter Try.func37 rfl rfl (Wd.itLent (x := dkI b m p c s) (fs := [GlF pl cuts]) hd (by intro Φ hΦ; obtain rfl := List.mem_singleton.1 hΦ; exact f0)) (fun a S => ?_)
  simp only [Try.ntmps37, List.length_cons, List.length_nil, Nat.reduceAdd, Nat.reduceSub, List.replicate_succ, List.replicate_zero, List.cons_append, List.nil_append] at S
  refine c_seq ?_
  refine c_region ?_
  refine sq S ?_; clear S; intro a S
  refine wl_nil ?_
  refine xtn ?_
  iterate 2 (refine c_seq ?_)
  refine c_region ?_
  iterate 3 (refine sq S ?_; clear S; intro a S)
  refine wl_nil ?_
  refine xtn ?_
  refine c_block ?_
  refine c_fore4 S (fun (i : Nat) (p1 : Option Addr) (c1 : Nat) (s1 : DS) uu => [(4, uu 4), (0, uu 5), (0, uu 6), (0, uu 7), (0, uu 8), (4, .int .i64 (i : Nat)), (0, uu 14), (0, uu 15), (0, uu 16), (0, uu 17), (0, uu 18), (0, uu 19), (0, uu 20), (0, uu 21), (0, uu 22), (0, uu 23), (0, uu 24), (0, uu 25), (0, uu 26), (0, uu 27), (0, uu 28), (0, uu 29), (0, uu 30), (0, uu 31), (0, uu 32), (0, uu 33), (0, uu 34), (0, uu 35), (0, uu 36), (0, uu 37), (0, uu 38), (0, uu 39), (0, uu 40), (0, uu 41), (0, uu 42), (0, uu 43), (0, uu 44), (0, uu 45), (0, uu 46), (0, uu 47), (0, uu 48), (0, uu 49), (0, uu 50)]) (fun (i : Nat) (p1 : Option Addr) (c1 : Nat) (s1 : DS) => [dkI b m p1 c1 s1]) (fun (i : Nat) (p1 : Option Addr) (c1 : Nat) (s1 : DS) => [GlF pl cuts]) (fun (i : Nat) (p1 : Option Addr) (c1 : Nat) (s1 : DS) => i ≤ cuts.length ∧ i ≤ 5 ∧ Able s1 n t said ∧ s1.arms.on = false) (fun (i : Nat) (p1 : Option Addr) (c1 : Nat) (s1 : DS) => cuts.length - i) (0) (p) (c) (s) ?_ S.uu ?_ ?_
  · exact ⟨Nat.zero_le _, by omega, h, ha⟩
  · first | exact S | exact S.sub _ _
  · clear S; rintro i p1 c1 s1 uu a w ⟨hi, hi5, hA, hoff⟩ S
    refine c_seq ?_
    refine c_region ?_
    refine sq S ?_; clear S; intro a S
    refine wl_nil ?_
    refine xtn ?_
    refine c_seq ?_
    refine c_cond S (fun h2 => ?_) (fun h2 => ?_)
    · refine c_skip ?_
      refine xtn ?_
      refine c_seq ?_
      refine c_block ?_
      refine c_seq ?_
      have hi2 : i < cuts.length := by have := of_decide_eq_true h2; omega
      have hK : KLt i cuts.length := ⟨hi2⟩
      obtain ⟨x, hx⟩ : ∃ x, x = nthG cuts i := ⟨_, rfl⟩
      have hxm : x ∈ cuts := hx ▸ nthG_mem hi2
      refine c_region ?_
      iterate 3 (refine sq S ?_; clear S; intro a S)
      rw [← hx] at S
      refine sa S ?_; clear S; intro b6 a w S
      refine sq S ?_; clear S; intro a S
      refine sw S ?_; clear S; intro a w S
      refine wl_nil ?_
      refine xtn ?_
      iterate 2 (refine c_seq ?_)
      refine c_region ?_
      iterate 2 (refine sq S ?_; clear S; intro a S)
      refine wl_nil ?_
      refine xtn ?_
      refine c_cond S (fun h4 => ?_) (fun h4 => ?_)
      · refine c_exit ?_
        refine xte ?_
        refine xbx ?_
        iterate 2 (refine xte ?_)
        refine xbe ?_
        refine xtn ?_
        refine c_seq ?_
        refine c_region ?_
        refine sq S ?_; clear S; intro a S
        refine sit (dkI b m p1 c1 s1) S (open_l b m p1 c1 s1 n t said hA _ (S.it (dkI b m p1 c1 s1))) rfl ?_; clear S; rintro _ a w hcase hS
        obtain ⟨g, L, rfl, hm, hh, hf, hok, hcl, ho, -⟩ := hcase.resolve_right (fun h => by have := h.1; rw [hoff] at this; cases this)
        have S := hS (lgI b g L) hh hf
        clear hS
        iterate 5 (refine sq S ?_; clear S; intro a S)
        refine wl_nil ?_
        refine xtn ?_
        iterate 2 (refine c_seq ?_)
        refine c_region ?_
        iterate 2 (refine sq S ?_; clear S; intro a S)
        refine wl_nil ?_
        refine xtn ?_
        refine c_condF S ?_
        refine c_skip ?_
        refine xtn ?_
        refine c_seq ?_
        refine c_region ?_
        iterate 2 (refine sq S ?_; clear S; intro a S)
        refine wl_nil ?_
        refine xtn ?_
        refine c_ret ?_
        have h1 := S.itNew (lgI b g L) rfl
        have h2 := S.it (lgI b g L)
        refine end1 S (fun _ => ?_)
        exact ⟨g, L, rfl, hm, h2, h1, hok, hcl, ho hoff⟩
      · refine c_skip ?_
        refine xtn ?_
        iterate 2 (refine c_seq ?_)
        refine c_region ?_
        iterate 6 (refine sq S ?_; clear S; intro a S)
        obtain ⟨k5, hk5⟩ : ∃ k5, k5 = IntKind.i64.wrap ((IntKind.u64.wrap x.n).tmod 14) := ⟨_, rfl⟩
        rw [← hk5] at S
        refine sit (dkI b m p1 c1 s1) S (darm_c b m p1 c1 s1 k5 _ (S.it (dkI b m p1 c1 s1))) rfl ?_; clear S; rintro _ a w ⟨rfl, hh⟩ hS
        have S := hS (dkI b m p1 c1 (armD s1 k5)) hh (fun k hk => .inl hk)
        clear hS
        rw [hA.on, if_neg Bool.false_ne_true] at S
        refine sq S ?_; clear S; intro a S
        refine wl_nil ?_
        refine xtn ?_
        refine c_condF S ?_
        refine c_skip ?_
        refine xtn ?_
        refine c_seq ?_
        refine c_region ?_
        refine sq S ?_; clear S; intro a S
        refine sit (dkI b m p1 c1 (armD s1 k5)) S (open_v b m p1 c1 (armD s1 k5) n t said (hA.arm k5) _ (S.it (dkI b m p1 c1 (armD s1 k5)))) rfl ?_; clear S; rintro _ a w ⟨e, pv, X, iX, rfl, hXo, hh, hf, hcase⟩ hS
        have S := hS X hh hf
        clear hS
        iterate 5 (refine sq S ?_; clear S; intro a S)
        refine wl_nil ?_
        refine xtn ?_
        iterate 2 (refine c_seq ?_)
        refine c_region ?_
        iterate 3 (refine sq S ?_; clear S; intro a S)
        refine gS S (fun h8 S => ?_) (fun h8 S => ?_)
        · refine gT S ?_
          refine sq S ?_; clear S; intro a S
          refine gT S ?_
          have he : e = 0 := of_decide_eq_true h8
          obtain ⟨-, g, L, rfl, rfl, hm, hok, hcl⟩ := hcase.resolve_right (fun h => by omega)
          replace S := S.front (lgI b g L)
          replace S := S.ofBoth
          refine sit (dkI b L.m L.p L.c L.s) S (darm_c b L.m L.p L.c L.s (-1) _ (S.it (dkI b L.m L.p L.c L.s))) rfl ?_; clear S; rintro _ a w ⟨rfl, hh2⟩ hS
          have S := hS (dkI b L.m L.p L.c (armD L.s (-1))) hh2 (fun k hk => .inl hk)
          clear hS
          replace S := S.toBoth
          have hon := hok.live.able.on
          rw [hon, if_neg Bool.false_ne_true] at S
          refine gT S ?_
          refine sq S ?_; clear S; intro a S
          rw [show decide ((0 : Int) = 0) = true from rfl] at S
          refine sq S ?_; clear S; intro a S
          refine wl_nil ?_
          refine xtn ?_
          refine c_condT S ?_
          refine c_seq ?_
          refine c_region ?_
          iterate 2 (refine sq S ?_; clear S; intro a S)
          refine wl_nil ?_
          refine xtn ?_
          refine c_ret ?_
          refine xtr ?_
          refine xbr ?_
          iterate 2 (refine xtr ?_)
          refine xbr ?_
          refine xtr ?_
          have h1 := S.itNew (both (dkI b L.m L.p L.c (armD L.s (-1))) (walI g b L.q L.e L.x)) rfl
          have h2 := S.it (both (dkI b L.m L.p L.c (armD L.s (-1))) (walI g b L.q L.e L.x))
          refine end1 S (fun _ => ?_)
          exact ⟨g, L.arm (-1), rfl, hm, h2, h1, hok.arm (-1), hcl.arm (-1), arm_off hon (by decide)⟩
        · refine gF S ?_; clear S; intro a S
          iterate 2 (refine gF S ?_; clear S; intro a S)
          refine sq S ?_; clear S; intro a S
          refine wl_nil ?_
          refine xtn ?_
          refine c_condF S ?_
          refine c_skip ?_
          refine xtn ?_
          refine c_seq ?_
          have he : e = 9 := by
            rcases hcase with ⟨h, _⟩ | ⟨h, _⟩
            · rw [h] at h8; cases h8
            · exact h
          subst he
          obtain ⟨-, p2, c2, s2, rfl, rfl, hl2, hk2⟩ := hcase.resolve_left (fun h => by cases h.1)
          refine c_region ?_
          iterate 2 (refine sq S ?_; clear S; intro a S)
          rw [show (!decide ((9 : Int) = 9)) = false from rfl] at S
          refine sq S ?_; clear S; intro a S
          refine gT' S ?_
          refine sq S ?_; clear S; intro a S
          refine gT' S ?_
          refine sq S ?_; clear S; intro a S
          refine gT' S ?_
          obtain ⟨hkc, hkf⟩ := keep_fact hxm (S.mem.fact (GlF pl cuts))
          have hlt := foots_lt S
          refine sr S (kept_c x hkc _ (hkf.less fun _ _ h => h.elim)) ?_; clear S; rintro _ a w ⟨p6, c6, rfl, hk6⟩ S
          replace S := S.add (hk6.less fun k _ hk => hlt k hk)
          refine gT' S ?_
          refine sit (dkI b m p2 c2 s2) S (dcrash_c b m p2 c2 s2 (keptF x) p6 c6 _ (by omega) (S.it (dkI b m p2 c2 s2)) (S.lend (dkI b m p2 c2 s2) (S.mem.fact (GlF p6 (keptF x))))) rfl ?_; clear S; rintro _ a w ⟨rfl, hh3⟩ hS
          have S := hS (dkI b m none 0 (crashD (keptF x) s2)) hh3 (fun k hk => .inl (crash_foot k hk))
          clear hS
          refine gT' S ?_
          refine sq S ?_; clear S; intro a S
          rw [show (!decide ((0 : Int) = 0)) = false from rfl] at S
          refine sq S ?_; clear S; intro a S
          refine wl_nil ?_
          refine xtn ?_
          refine c_condF S ?_
          refine c_skip ?_
          refine xbn ?_
          refine xtn ?_
          refine c_region ?_
          iterate 2 (refine sq S ?_; clear S; intro a S)
          refine wl_nil ?_
          refine xtn ?_
          have hi6 : i < 5 := by have := of_decide_eq_false h4; omega
          rw [w64 ((i : Int) + 1) (by omega) (by omega)] at S
          exact ⟨i + 1, none, 0, crashD (keptF x) s2, S.uu, ⟨hi2, by omega, hk2 _, rfl⟩, S.sub _ _, by omega⟩
    · refine c_exit ?_
      iterate 2 (refine xte ?_)
      refine xbe ?_
      refine xtn ?_
      refine c_seq ?_
      refine c_region ?_
      refine sq S ?_; clear S; intro a S
      refine sit (dkI b m p1 c1 s1) S (open_l b m p1 c1 s1 n t said hA _ (S.it (dkI b m p1 c1 s1))) rfl ?_; clear S; rintro _ a w hcase hS
      obtain ⟨g, L, rfl, hm, hh, hf, hok, hcl, ho, -⟩ := hcase.resolve_right (fun h => by have := h.1; rw [hoff] at this; cases this)
      have S := hS (lgI b g L) hh hf
      clear hS
      iterate 5 (refine sq S ?_; clear S; intro a S)
      refine wl_nil ?_
      refine xtn ?_
      iterate 2 (refine c_seq ?_)
      refine c_region ?_
      iterate 2 (refine sq S ?_; clear S; intro a S)
      refine wl_nil ?_
      refine xtn ?_
      refine c_condF S ?_
      refine c_skip ?_
      refine xtn ?_
      refine c_seq ?_
      refine c_region ?_
      iterate 2 (refine sq S ?_; clear S; intro a S)
      refine wl_nil ?_
      refine xtn ?_
      refine c_ret ?_
      have h1 := S.itNew (lgI b g L) rfl
      have h2 := S.it (lgI b g L)
      refine end1 S (fun _ => ?_)
      exact ⟨g, L, rfl, hm, h2, h1, hok, hcl, ho hoff⟩
end Go.Proofs.Ythffheckghdelaa

/- The laws of layer 4: what was taken down lasts. -/
namespace Go.Proofs.Ythffheckghdelaa
open Go Go.Wk
set_option synthInstance.maxSize 100000
set_option synthInstance.maxHeartbeats 400000
set_option maxRecDepth 100000

theorem ret_wide {P : Program} {f : Nat} {args : List Value} {w : World} {x y : Wk.Item} [ItOk y] {R : Value → World → Prop} (h : Ret P f args w x.foot R) (hy : y.holds w) (hap : ∀ k, x.foot k → ¬ y.foot k) : Ret P f args w (both x y).foot fun v w' => R v w' ∧ y.holds w' :=
  Calls.mono h fun _ w' ⟨v, he, ha, hr⟩ => ⟨v, he, ha.mono (fun _ _ hk => .inl hk), hr, ItOk.loc w w' (fun k hk => ha.blk (ItOk.lt w hy k hk) (fun hx => hap k hx hk)) hy⟩
theorem arm_l (b g : Nat) (L : LG) (k : Int) (w0 : World) (hd : (lgI b g L).holds w0) : Ret Try.prog 31 [.pointer (some ⟨b, 0, none⟩), .int .i64 k] w0 (lgI b g L).foot fun v w' => v = .int .i64 (if L.s.out then 9 else 0) ∧ (lgI b g (L.arm k)).holds w' := by
  refine (ret_wide (y := walI g b L.q L.e L.x) (darm_c b L.m L.p L.c L.s k w0 hd.1) hd.2.1 hd.2.2).mono fun v w' => ?_
  rintro ⟨⟨rfl, h1⟩, h2⟩
  exact ⟨rfl, h1, h2, hd.2.2⟩
theorem taking_keep (x : LAct) : (takingF x).p = x.p ∧ (takingF x).c = x.c ∧ (takingF x).keep = x.keep := ⟨rfl, rfl, rfl⟩
/-- what may be found behind a crash. -/
def FindR (s : DS) (n : Nat) (e : Int) (now next : List (List UInt8)) : Prop := s.loose.length ≤ 2000 ∧ ∀ keep, (∃ t, Able (crashD keep s) n t now) ∨ (e = 9 ∧ ∃ t, Able (crashD keep s) n t next)
theorem take_find {L L' : LG} {n : Nat} {t : Int} {said : List (List UInt8)} {ck : Bool} {bs : List UInt8} {e : Int} (h : TakeR L L' n t said ck bs e) (hL : LgOk L n t said) :
    (e = 0 ∧ FindR L'.s n e (nextS ck said bs) (nextS ck said bs)) ∨ (e ≠ 0 ∧ LgSays L' said ∧ FindR L'.s n e said (nextS ck said bs)) := by
  have key : ∀ {M : LG} {t} {sd : List (List UInt8)}, LgOk M n t sd → M.s.loose.length ≤ 2000 ∧ ∀ keep, ∃ t, Able (crashD keep M.s) n t sd := fun hM => by
    obtain ⟨tail, hl, hf⟩ := hM.live
    exact ⟨by rw [hl.loose]; simp, fun keep => ⟨_, (Live.crash ⟨tail, hl, hf⟩ keep).able⟩⟩
  rcases h with ⟨h1, h2, rfl⟩ | ⟨h1, h2, h3, h4, h5⟩ | ⟨h1, h2, h3, h4, h5, h6, h7, h8⟩
  · exact .inr ⟨by rw [h2]; exact h1, hL.tells, (key hL).1, fun keep => .inl ((key hL).2 keep)⟩
  · exact .inl ⟨h2, (key h4).1, fun keep => .inl ((key h4).2 keep)⟩
  · refine .inr ⟨by rw [h3]; decide, h7, h6, fun keep => ?_⟩
    rcases h8 keep with h | h
    · exact .inl ⟨_, h⟩
    · exact .inr ⟨h3, _, h⟩
def moreA : LAct := ⟨0, 50, 200, none, 0, []⟩
theorem equal_f {p q : Option Addr} {c e : Nat} {xs ys : List LBy} {A B : List (List UInt8)} (hA : bsL xs = A) (hB : bsL ys = B) (lA : A.length ≤ 2000 ∧ ∀ b ∈ A, b.length ≤ 50000) (lB : B.length ≤ 2000 ∧ ∀ b ∈ B, b.length ≤ 50000) (w0 : World) (f1 : Stable (fun _ => False) w0 (GlF p xs)) (f2 : Stable (fun _ => False) w0 (AllBy xs)) (f3 : Stable (fun _ => False) w0 (GlF q ys)) (f4 : Stable (fun _ => False) w0 (AllBy ys)) :
    Ret Try.prog 33 [.slice p xs.length c, .slice q ys.length e] w0 (fun _ => False) fun v _ => v = .bool (decide (A = B)) := by
  subst hA hB
  have h1 : xs.length ≤ 2000 := by simpa using lA.1
  have h2 : ys.length ≤ 2000 := by simpa using lB.1
  exact equal_c p q c e xs ys ⟨by omega, by omega⟩ (fun y hy => by have := lA.2 y.bs (List.mem_map_of_mem hy); omega) (fun y hy => by have := lB.2 y.bs (List.mem_map_of_mem hy); omega) w0 f1 f2 f3 f4
theorem says_lim {L : LG} {said : List (List UInt8)} (h : LgSays L said) : said.length ≤ 2000 ∧ ∀ b ∈ said, b.length ≤ 50000 := ⟨by have := h.few; omega, fun b hb => by have := h.short b hb; omega⟩
theorem next_lim {said : List (List UInt8)} (h : said.length ≤ 1000 ∧ ∀ b ∈ said, b.length ≤ 40000) (ck : Bool) (x : LAct) : (nextS ck said (bytesF x)).length ≤ 2000 ∧ ∀ b ∈ nextS ck said (bytesF x), b.length ≤ 50000 := by
  have hb := bytesF_le x
  unfold nextS
  split
  · exact ⟨by simp, fun b hm => by obtain rfl := List.mem_singleton.1 hm; omega⟩
  · refine ⟨by simp; omega, fun b hm => ?_⟩
    rcases List.mem_append.1 hm with hm | hm
    · have := h.2 b hm; omega
    · obtain rfl := List.mem_singleton.1 hm; omega
theorem wallasts_c (pl : Option Addr) (cl : Nat) (acts : List LAct) (x : LAct) (pc : Option Addr) (cc : Nat) (cuts : List LAct) (hal : acts.length ≤ maxLen) (hcl : cuts.length ≤ maxLen) (hxc : x.keep.length ≤ x.c) (w0 : World) (f0 : Stable (fun _ => False) w0 (GlF pl acts)) (f1 : Stable (fun _ => False) w0 (GlF pc cuts)) (f2 : Stable (fun _ => False) w0 (GlF x.p x.keep)) :
    Ret Try.prog 7 [.slice pl acts.length cl, .agg ⟨cAct x⟩, .slice pc cuts.length cc] w0 (fun _ => False) fun v _ => v = .bool true := by
  refine enter Try.func7 rfl rfl (Wd.begin (fs := [GlF pl acts, GlF pc cuts, GlF x.p x.keep]) (by simp; exact ⟨f0, f1, f2⟩)) (fun a S => ?_)
  simp only [Try.ntmps7, List.length_cons, List.length_nil, Nat.reduceAdd, Nat.reduceSub, List.replicate_succ, List.replicate_zero, List.cons_append, List.nil_append] at S
  refine c_seq ?_
  refine c_region ?_
  refine sa S ?_; clear S; intro b4 a w S
  refine sq S ?_; clear S; intro a S
  refine wl_nil ?_
  refine xtn ?_
  iterate 2 (refine c_seq ?_)
  refine c_region ?_
  refine sr S (wakes_c _) ?_; clear S; rintro _ a w rfl S
  refine sq S ?_; clear S; intro a S
  refine wl_nil ?_
  refine xtn ?_
  refine c_condF S ?_
  refine c_skip ?_
  refine xtn ?_
  refine c_seq ?_
  refine c_region ?_
  refine snew S (fresh_l 9 (by omega) _) ?_; clear S; rintro _ a w - ⟨b, g, L, rfl, hok, hoff, hh, hnw⟩ hS -
  have S := hS (lgI b g L) hh hnw
  clear hS
  iterate 5 (refine sq S ?_; clear S; intro a S)
  refine wl_nil ?_
  refine xtn ?_
  iterate 2 (refine c_seq ?_)
  refine c_region ?_
  iterate 2 (refine sq S ?_; clear S; intro a S)
  refine wl_nil ?_
  refine xtn ?_
  refine c_condF S ?_
  refine c_skip ?_
  refine xtn ?_
  refine c_seq ?_
  refine c_region ?_
  iterate 2 (refine sq S ?_; clear S; intro a S)
  refine sitM (lgI b g L) S (lived_c b g L 9 0 [[]] pl cl acts hok hoff (by omega) hal (restOf _ (lgI b g L)) _ (S.restOk _) (S.it (lgI b g L)) (Stable.split (lgI b g L) (S.mem.fact (GlF pl acts)))) rfl ?_; clear S; rintro _ a w ⟨L1, t1, p1, c1, ys, rfl, hm1, hL1, ha1, ht1, hp1, hh1, hn1, g1, g2⟩ hS
  have S := hS (lgI b g L1) [AllBy ys, GlF p1 ys] hh1 hn1 (fun Φ hΦ => by
    rcases List.mem_cons.1 hΦ with rfl | hΦ
    · exact g2
    · obtain rfl := List.mem_singleton.1 hΦ; exact g1)
  clear hS
  iterate 5 (refine sq S ?_; clear S; intro a S)
  refine wl_nil ?_
  refine xtn ?_
  iterate 2 (refine c_seq ?_)
  refine c_region ?_
  iterate 2 (refine sq S ?_; clear S; intro a S)
  refine wl_nil ?_
  refine xtn ?_
  refine c_condF S ?_
  refine c_skip ?_
  refine xtn ?_
  iterate 2 (refine c_seq ?_)
  refine c_region ?_
  iterate 6 (refine sq S ?_; clear S; intro a S)
  obtain ⟨k9, hk9⟩ : ∃ k9, k9 = IntKind.i64.wrap ((IntKind.u64.wrap x.n).tmod 27) := ⟨_, rfl⟩
  rw [← hk9] at S
  obtain ⟨tail1, hlive1, _⟩ := hL1.live
  have hon1 := hlive1.up.on
  have hfew1 := hL1.tells.few
  have hsome1 := List.length_pos_iff.2 hL1.tells.some_
  rw [List.length_map] at hfew1 hsome1
  refine sit (lgI b g L1) S (arm_l b g L1 k9 _ (S.it (lgI b g L1))) rfl ?_; clear S; rintro _ a w ⟨rfl, hh2⟩ hS
  have S := hS (lgI b g (L1.arm k9)) hh2 (fun k hk => .inl hk)
  clear hS
  rw [hon1, if_neg Bool.false_ne_true] at S
  obtain ⟨L2, hL2⟩ : ∃ L2, L2 = L1.arm k9 := ⟨_, rfl⟩
  have hok2 : LgOk L2 9 t1 (bsL ys) := by rw [hL2]; exact hL1.arm k9
  have hm2 : L2.m = L.m := by rw [hL2]; exact hm1
  rw [← hL2] at S
  refine sq S ?_; clear S; intro a S
  refine wl_nil ?_
  refine xtn ?_
  refine c_condF S ?_
  refine c_skip ?_
  refine xtn ?_
  refine c_seq ?_
  refine c_region ?_
  refine sq S ?_; clear S; intro a S
  refine sr S (taking_c x _) ?_; clear S; rintro _ a w rfl S
  obtain ⟨x2, hx2⟩ : ∃ x2, x2 = takingF x := ⟨_, rfl⟩
  rw [← hx2] at S
  obtain ⟨kp, kc, kk⟩ := taking_keep x
  rw [← hx2] at kp kc kk
  replace S := S.add (Φ := GlF x2.p x2.keep) ((S.mem.fact (GlF x.p x.keep)).imp fun _ h => by rw [kp, kk]; exact h)
  refine sw S ?_; clear S; intro a w S
  refine wl_nil ?_
  refine xtn ?_
  refine c_seq ?_
  refine c_region ?_
  iterate 2 (refine sq S ?_; clear S; intro a S)
  refine sr S (behind_c p1 c1 ys x2 hsome1 (by omega) hp1 _ _ (foots_lt S) (S.mem.fact (GlF p1 ys)) (S.mem.fact (AllBy ys))) ?_; clear S; rintro _ a w ⟨p3, c3, zs, rfl, hz, hp3, g3, g4⟩ S
  replace S := S.add g3
  replace S := S.add g4
  refine sq S ?_; clear S; intro a S
  refine wl_nil ?_
  refine xtn ?_
  refine c_seq ?_
  refine c_region ?_
  iterate 2 (refine sq S ?_; clear S; intro a S)
  refine sit (lgI b g L2) S (take_l b g L2 9 t1 (bsL ys) x2 hok2 (by omega) _ (S.it (lgI b g L2))) rfl ?_; clear S; rintro _ a w ⟨L3, e, rfl, hh3, hn3, hR⟩ hS
  have S := hS (lgI b g L3) hh3 hn3
  clear hS
  have hfd := take_find hR hok2
  rw [← hz] at hfd
  have hlim1 := says_lim hok2.tells
  have hlim3 := next_lim ⟨hok2.tells.few, hok2.tells.short⟩ (ckF x2) x2
  rw [← hz] at hlim3
  refine sq S ?_; clear S; intro a S
  refine wl_nil ?_
  refine xtn ?_
  refine c_mrge3 S (fun (p4 : Option Addr) (c4 : Nat) (us : List LBy) uu => [(6, uu 6), (2, .slice p4 us.length c4), (39, uu 49), (0, uu 50), (0, uu 51), (0, uu 52), (0, uu 53), (0, uu 54), (0, uu 55), (0, uu 56)]) (fun (p4 : Option Addr) (c4 : Nat) (us : List LBy) => [lgI b g L3, Wk.box b4 33 (cAct x2)]) (fun (p4 : Option Addr) (c4 : Nat) (us : List LBy) => [AllBy us, GlF p4 us, AllBy zs, GlF p3 zs, GlF x2.p x2.keep, GlF pc cuts]) (fun (p4 : Option Addr) (c4 : Nat) (us : List LBy) => FindR L3.s 9 e (bsL us) (bsL zs) ∧ (bsL us).length ≤ 2000 ∧ (∀ b ∈ bsL us, b.length ≤ 50000)) ?_ ?_
  · refine c_seq ?_
    refine c_region ?_
    iterate 2 (refine sq S ?_; clear S; intro a S)
    refine wl_nil ?_
    refine xtn ?_
    refine c_cond S (fun h14 => ?_) (fun h14 => ?_)
    · refine c_region ?_
      iterate 2 (refine sq S ?_; clear S; intro a S)
      refine wl_nil ?_
      refine xtn ?_
      have he : e = 0 := of_decide_eq_true h14
      have hfr : FindR L3.s 9 e (bsL zs) (bsL zs) := by
        rcases hfd with ⟨_, h⟩ | ⟨h, _⟩
        · exact h
        · exact absurd he h
      replace S := S.add (Φ := GlF p3 zs) (S.mem.fact (GlF p3 zs))
      replace S := S.add (Φ := AllBy zs) (S.mem.fact (AllBy zs))
      exact ⟨p3, c3, zs, S.uu, ⟨hfr, hlim3⟩, S.sub _ _⟩
    · refine c_seq ?_
      refine c_region ?_
      refine sq S ?_; clear S; intro a S
      have he : e ≠ 0 := of_decide_eq_false h14
      have hfr2 : LgSays L3 (bsL ys) ∧ FindR L3.s 9 e (bsL ys) (bsL zs) := by
        rcases hfd with ⟨h, _⟩ | ⟨_, h⟩
        · exact absurd h he
        · exact h
      have hlt := foots_lt S
      refine sr S (account_f b g L3 (bsL ys) hfr2.1 _ (S.it (lgI b g L3))) ?_; clear S; rintro _ a w ⟨p5, c5, us, rfl, hb5, hp5, g5, g6⟩ S
      replace S := S.add (Φ := GlF p5 us) (g5.less fun k _ hk => hlt k hk)
      replace S := S.add (Φ := AllBy us) (g6.less fun k _ hk => hlt k hk)
      refine sq S ?_; clear S; intro a S
      refine sr S (equal_f (A := bsL ys) (B := bsL ys) hb5 rfl hlim1 hlim1 _ ((S.mem.fact (GlF p5 us)).less fun _ _ h => h.elim) ((S.mem.fact (AllBy us)).less fun _ _ h => h.elim) ((S.mem.fact (GlF p1 ys)).less fun _ _ h => h.elim) ((S.mem.fact (AllBy ys)).less fun _ _ h => h.elim)) ?_; clear S; rintro _ a w rfl S
      rw [show decide (bsL ys = bsL ys) = true from decide_eq_true rfl] at S
      refine sq S ?_; clear S; intro a S
      refine wl_nil ?_
      refine xtn ?_
      refine c_condF S ?_
      refine c_skip ?_
      refine xtn ?_
      replace S := S.add (Φ := GlF p1 ys) (S.mem.fact (GlF p1 ys))
      replace S := S.add (Φ := AllBy ys) (S.mem.fact (AllBy ys))
      exact ⟨p1, c1, ys, S.uu, ⟨hfr2.2, hlim1⟩, S.sub _ _⟩
  · clear S; rintro p4 c4 us uu a w ⟨hfr, hlim4, hlim5⟩ S
    iterate 2 (refine c_seq ?_)
    refine c_region ?_
    iterate 2 (refine sq S ?_; clear S; intro a S)
    have hlt := foots_lt S
    refine sr S (kept_c x2 (by rw [kk, kc]; exact hxc) _ ((S.mem.fact (GlF x2.p x2.keep)).less fun _ _ h => h.elim)) ?_; clear S; rintro _ a w ⟨p6, c6, rfl, hk6⟩ S
    replace S := S.add (hk6.less fun k _ hk => hlt k hk)
    replace S := S.front (lgI b g L3)
    replace S := S.ofBoth
    refine sit (dkI b L3.m L3.p L3.c L3.s) S (dcrash_c b L3.m L3.p L3.c L3.s (keptF x2) p6 c6 _ (by have := hfr.1; omega) (S.it (dkI b L3.m L3.p L3.c L3.s)) (S.lend (dkI b L3.m L3.p L3.c L3.s) (S.mem.fact (GlF p6 (keptF x2))))) rfl ?_; clear S; rintro _ a w ⟨rfl, hh4⟩ hS
    have S := hS (dkI b L3.m none 0 (crashD (keptF x2) L3.s)) hh4 (fun k hk => .inl (crash_foot k hk))
    clear hS
    obtain ⟨t5, said5, hA5, hs5⟩ : ∃ t5 said5, Able (crashD (keptF x2) L3.s) 9 t5 said5 ∧ (said5 = bsL us ∨ (e = 9 ∧ said5 = bsL zs)) := by
      rcases hfr.2 (keptF x2) with ⟨t, h⟩ | ⟨h9, t, h⟩
      · exact ⟨t, _, h, .inl rfl⟩
      · exact ⟨t, _, h, .inr ⟨h9, rfl⟩⟩
    refine sq S ?_; clear S; intro a S
    refine wl_nil ?_
    refine xtn ?_
    refine c_condF S ?_
    refine c_skip ?_
    refine xtn ?_
    refine c_seq ?_
    refine c_region ?_
    iterate 2 (refine sq S ?_; clear S; intro a S)
    refine sit (dkI b L3.m none 0 (crashD (keptF x2) L3.s)) S (found_c b L3.m none 0 (crashD (keptF x2) L3.s) 9 t5 said5 pc cc cuts hA5 rfl hcl _ (S.it (dkI b L3.m none 0 (crashD (keptF x2) L3.s))) (S.lend (dkI b L3.m none 0 (crashD (keptF x2) L3.s)) (S.mem.fact (GlF pc cuts)))) rfl ?_; clear S; rintro _ a w ⟨g2, L4, rfl, hm4, hh5, hn5, hok4, hcl4, hoff4⟩ hS
    have S := hS (lgI b g2 L4) hh5 hn5
    clear hS
    refine sq S ?_; clear S; intro a S
    refine wl_nil ?_
    refine xtn ?_
    iterate 2 (refine c_seq ?_)
    refine c_region ?_
    iterate 2 (refine sq S ?_; clear S; intro a S)
    refine wl_nil ?_
    refine xtn ?_
    refine c_condF S ?_
    refine c_skip ?_
    refine xtn ?_
    refine c_seq ?_
    refine c_region ?_
    refine sq S ?_; clear S; intro a S
    have hlt := foots_lt S
    have hlim6 := says_lim hok4.tells
    refine sr S (account_f b g2 L4 said5 hok4.tells _ (S.it (lgI b g2 L4))) ?_; clear S; rintro _ a w ⟨p7, c7, ts, rfl, hb7, hp7, g7, g8⟩ S
    replace S := S.add (Φ := GlF p7 ts) (g7.less fun k _ hk => hlt k hk)
    replace S := S.add (Φ := AllBy ts) (g8.less fun k _ hk => hlt k hk)
    refine sq S ?_; clear S; intro a S
    refine wl_nil ?_
    refine xtn ?_
    refine c_mrge0 S (fun  uu => [(6, uu 6), (62, uu 69), (0, uu 70), (0, uu 71), (0, uu 72), (0, uu 73), (0, uu 74), (0, uu 75), (0, uu 76), (0, uu 77), (0, uu 78), (0, uu 79), (0, uu 80), (0, uu 81), (0, uu 82)]) ([lgI b g2 L4]) ([AllBy ts, GlF p7 ts]) (True) ?_ ?_
    · refine c_seq ?_
      refine c_region ?_
      iterate 2 (refine sq S ?_; clear S; intro a S)
      refine sr S (equal_f (A := said5) (B := bsL us) hb7 rfl hlim6 ⟨hlim4, hlim5⟩ _ ((S.mem.fact (GlF p7 ts)).less fun _ _ h => h.elim) ((S.mem.fact (AllBy ts)).less fun _ _ h => h.elim) ((S.mem.fact (GlF p4 us)).less fun _ _ h => h.elim) ((S.mem.fact (AllBy us)).less fun _ _ h => h.elim)) ?_; clear S; rintro _ a w rfl S
      iterate 2 (refine sq S ?_; clear S; intro a S)
      refine gS S (fun h24 S => ?_) (fun h24 S => ?_)
      · refine gT S ?_
        refine sq S ?_; clear S; intro a S
        refine gT S ?_
        obtain ⟨he9, hsz⟩ : e = 9 ∧ said5 = bsL zs := by
          rcases hs5 with h | h
          · rw [h] at h24; simp at h24
          · exact h
        refine sq S ?_; clear S; intro a S
        rw [show (!decide (e = 9)) = false from by simp [he9]] at S
        refine gT S ?_
        refine sq S ?_; clear S; intro a S
        refine gT' S ?_
        refine sq S ?_; clear S; intro a S
        refine gT' S ?_
        refine sq S ?_; clear S; intro a S
        refine gT' S ?_
        refine sr S (equal_f (A := said5) (B := bsL zs) hb7 rfl hlim6 hlim3 _ ((S.mem.fact (GlF p7 ts)).less fun _ _ h => h.elim) ((S.mem.fact (AllBy ts)).less fun _ _ h => h.elim) ((S.mem.fact (GlF p3 zs)).less fun _ _ h => h.elim) ((S.mem.fact (AllBy zs)).less fun _ _ h => h.elim)) ?_; clear S; rintro _ a w rfl S
        rw [show decide (said5 = bsL zs) = true from decide_eq_true hsz] at S
        refine gT' S ?_
        refine sq S ?_; clear S; intro a S
        refine gT S ?_
        iterate 2 (refine sq S ?_; clear S; intro a S)
        refine wl_nil ?_
        refine xtn ?_
        refine c_condF S ?_
        refine c_skip ?_
        refine xtn ?_
        exact ⟨S.uu, trivial, S.sub _ _⟩
      · refine gF S ?_; clear S; intro a S
        iterate 2 (refine gF S ?_; clear S; intro a S)
        iterate 4 (refine gU S ?_; clear S; intro a S)
        refine gF S ?_; clear S; intro a S
        refine sq S ?_; clear S; intro a S
        refine wl_nil ?_
        refine xtn ?_
        refine c_condF S ?_
        refine c_skip ?_
        refine xtn ?_
        exact ⟨S.uu, trivial, S.sub _ _⟩
    · clear S; rintro  uu a w - S
      refine c_seq ?_
      refine c_region ?_
      refine sq S ?_; clear S; intro a S
      refine sa S ?_; clear S; intro b15 a w S
      refine sw S ?_; clear S; intro a w S
      rw [show ([.int .i64 0, .int .i64 50, .int .u8 200, .slice none 0 0] : List Value) = cAct moreA from rfl] at S
      have hts0 : 0 < ts.length := by
        have := List.length_pos_iff.2 hok4.tells.some_
        rw [← hb7, List.length_map] at this; exact this
      have htsl : ts.length ≤ 1000 := by have := hok4.tells.few; rw [← hb7, List.length_map] at this; exact this
      have hck : ckF moreA = false := by decide
      have hokb : LgOk L4 9 t5 (bsL ts) := by rw [hb7]; exact hok4
      refine wl_nil ?_
      refine xtn ?_
      refine c_mrge4 S (fun (L6 : LG) (p8 : Option Addr) (c8 : Nat) (vs : List LBy) uu => [(14, .slice p8 vs.length c8), (69, uu 84), (0, uu 85), (0, uu 86), (0, uu 87), (0, uu 88), (0, uu 89), (0, uu 90), (0, uu 91)]) (fun (L6 : LG) (p8 : Option Addr) (c8 : Nat) (vs : List LBy) => [lgI b g2 L6]) (fun (L6 : LG) (p8 : Option Addr) (c8 : Nat) (vs : List LBy) => [AllBy vs, GlF p8 vs]) (fun (L6 : LG) (p8 : Option Addr) (c8 : Nat) (vs : List LBy) => LgOk L6 9 t5 (bsL vs) ∧ L6.s.arms.on = false) ?_ ?_
      · refine c_seq ?_
        refine c_region ?_
        iterate 2 (refine sq S ?_; clear S; intro a S)
        refine snew S (bytes_l moreA _) ?_; clear S; rintro _ a w - ⟨y, rfl, hy, hhy, hny⟩ hS -
        have S := hS (entI [y]) hhy hny
        clear hS
        refine sit (lgI b g2 L4) S (append_l b g2 L4 9 t5 (bsL ts) y hokb (by rw [hy]; have := bytesF_le moreA; omega) _ (S.it (lgI b g2 L4)) (rowEnt_gl (S.it (entI [y])) (fun k hk hk2 => St.apart2 S (entI [y]) (lgI b g2 L4) k hk hk2))) rfl ?_; clear S; rintro _ a w ⟨L5, e5, rfl, hh6, hn6, hR5⟩ hS
        have S := hS (lgI b g2 L5) hh6 hn6
        clear hS
        rw [hy] at hR5
        have hR6 := wantF_off hR5 hoff4 hokb
        refine sq S ?_; clear S; intro a S
        refine wl_nil ?_
        refine xtn ?_
        refine c_cond S (fun h27 => ?_) (fun h27 => ?_)
        · refine c_region ?_
          iterate 2 (refine sq S ?_; clear S; intro a S)
          have he : e5 = 0 := of_decide_eq_true h27
          obtain ⟨-, -, -, hok5, hoff5⟩ : e5 = 0 ∧ wantF 9 t5 (bsL ts) false (bytesF moreA) = 0 ∧ L5.m = L4.m ∧ LgOk L5 9 (nextT false t5) (nextS false (bsL ts) (bytesF moreA)) ∧ L5.s.arms.on = false := by
            rcases hR6 with ⟨h, _⟩ | h
            · exact absurd he h
            · exact h
          refine sr S (behind_c p7 c7 ts moreA hts0 (by omega) hp7 _ _ (foots_lt S) (S.mem.fact (GlF p7 ts)) (S.mem.fact (AllBy ts))) ?_; clear S; rintro _ a w ⟨p8, c8, vs, rfl, hv, hp8, g9, g10⟩ S
          replace S := S.add g9
          replace S := S.add g10
          rw [hck] at hv
          refine sq S ?_; clear S; intro a S
          refine wl_nil ?_
          refine xtn ?_
          exact ⟨L5, p8, c8, vs, S.uu, ⟨by rw [hv]; exact hok5, hoff5⟩, S.sub _ _⟩
        · refine c_skip ?_
          refine xtn ?_
          have he : e5 ≠ 0 := of_decide_eq_false h27
          obtain ⟨-, -, rfl⟩ : e5 ≠ 0 ∧ e5 = wantF 9 t5 (bsL ts) false (bytesF moreA) ∧ L5 = L4 := by
            rcases hR6 with h | ⟨h, _⟩
            · exact h
            · exact absurd h he
          exact ⟨L5, p7, c7, ts, S.uu, ⟨hokb, hoff4⟩, S.sub _ _⟩
      · clear S; rintro L6 p8 c8 vs uu a w ⟨hok6, hoff6⟩ S
        iterate 2 (refine c_seq ?_)
        refine c_region ?_
        refine sq S ?_; clear S; intro a S
        obtain ⟨tail6, hlive6, _⟩ := hok6.live
        have hl6 := hlive6.loose
        replace S := S.ofBoth
        refine sit (dkI b L6.m L6.p L6.c L6.s) S (dcrash_c b L6.m L6.p L6.c L6.s [] none 0 _ (by rw [hl6]; simp) (S.it (dkI b L6.m L6.p L6.c L6.s)) (fun _ _ => gl_nil)) rfl ?_; clear S; rintro _ a w ⟨rfl, hh7⟩ hS
        have S := hS (dkI b L6.m none 0 (crashD [] L6.s)) hh7 (fun k hk => .inl (crash_foot k hk))
        clear hS
        refine sq S ?_; clear S; intro a S
        refine wl_nil ?_
        refine xtn ?_
        refine c_condF S ?_
        refine c_skip ?_
        refine xtn ?_
        refine c_seq ?_
        refine c_region ?_
        refine sq S ?_; clear S; intro a S
        refine sit (dkI b L6.m none 0 (crashD [] L6.s)) S (open_l b L6.m none 0 (crashD [] L6.s) 9 t5 (bsL vs) (hok6.live.crash []).able _ (S.it (dkI b L6.m none 0 (crashD [] L6.s)))) rfl ?_; clear S; rintro _ a w hcase hS
        obtain ⟨g3, L7, rfl, -, hh8, hn8, hok7, -, -, -⟩ := hcase.resolve_right (fun h => by have := h.1; cases this)
        have S := hS (lgI b g3 L7) hh8 hn8
        clear hS
        iterate 5 (refine sq S ?_; clear S; intro a S)
        refine wl_nil ?_
        refine xtn ?_
        refine c_seq ?_
        refine c_region ?_
        iterate 2 (refine sq S ?_; clear S; intro a S)
        rw [show decide ((0 : Int) = 0) = true from rfl] at S
        refine sq S ?_; clear S; intro a S
        refine gT S ?_
        refine sq S ?_; clear S; intro a S
        refine gT S ?_
        have hlt := foots_lt S
        have hlim7 := says_lim hok7.tells
        refine sr S (account_f b g3 L7 (bsL vs) hok7.tells _ (S.it (lgI b g3 L7))) ?_; clear S; rintro _ a w ⟨p9, c9, xs, rfl, hb9, hp9, g11, g12⟩ S
        replace S := S.add (Φ := GlF p9 xs) (g11.less fun k _ hk => hlt k hk)
        replace S := S.add (Φ := AllBy xs) (g12.less fun k _ hk => hlt k hk)
        refine gT S ?_
        refine sq S ?_; clear S; intro a S
        refine gT S ?_
        refine sr S (equal_f (A := bsL vs) (B := bsL vs) hb9 rfl hlim7 hlim7 _ ((S.mem.fact (GlF p9 xs)).less fun _ _ h => h.elim) ((S.mem.fact (AllBy xs)).less fun _ _ h => h.elim) ((S.mem.fact (GlF p8 vs)).less fun _ _ h => h.elim) ((S.mem.fact (AllBy vs)).less fun _ _ h => h.elim)) ?_; clear S; rintro _ a w rfl S
        rw [show decide (bsL vs = bsL vs) = true from decide_eq_true rfl] at S
        iterate 2 (refine sq S ?_; clear S; intro a S)
        refine wl_nil ?_
        refine xtn ?_
        refine c_ret ?_
        exact end1 S (fun _ => rfl)
end Go.Proofs.Ythffheckghdelaa

/- The laws of layer 4: what an opening left is found once more. -/
namespace Go.Proofs.Ythffheckghdelaa
open Go Go.Wk
set_option synthInstance.maxSize 100000
set_option synthInstance.maxHeartbeats 400000
set_option maxRecDepth 100000

/-! of a log whose disk another one has: what it tells -/
theorem account_w (b g : Nat) (L : LG) (said : List (List UInt8)) (h : LgSays L said) (w0 : World) (hd : (walI g b L.q L.e L.x).holds w0) :
    Ret Try.prog 34 [.pointer (some ⟨g, 0, none⟩)] w0 (fun _ => False) fun v w' => ∃ p c ys, v = .slice p ys.length c ∧ bsL ys = said ∧ p ≠ none ∧ Stable (fun k => k < w0.heap.size) w' (GlF p ys) ∧ Stable (fun k => k < w0.heap.size) w' (AllBy ys) := by
  have hl := says_len h
  have h0 := List.length_pos_iff.2 h.some_
  have hf := h.few
  have := account_c g b L.q L.e L.x (by omega) (own_le hd.2.1.1) (by omega) (fun y hy => by have := says_by h y hy; omega) w0 (BoxF.stable hd.1 (fun h => h)) (gl_own hd.2.1.1 (fun _ _ _ _ => trivial) (fun _ _ h => h)) (allBy_ent hd.2.1.2.1)
  rw [h.says] at this
  refine this.mono fun v w' => ?_
  rintro ⟨p, c, ys, rfl, hb, hh, hn⟩
  have h0 : 0 < ys.length := by rw [← hb, List.length_map] at h0; exact h0
  exact ⟨p, c, ys, rfl, hb, acc_facts hh hn h0⟩
theorem left_w (b g : Nat) (L : LG) (n : Nat) (t : Int) (said : List (List UInt8)) (h : LgOk L n t said) (w0 : World) (hd : (walI g b L.q L.e L.x).holds w0) : Ret Try.prog 18 [.pointer (some ⟨g, 0, none⟩)] w0 (fun _ => False) fun v _ => v = .int .i64 ((n : Int) - (endF t said : Int)) := by
  obtain ⟨tail, hL, _⟩ := h.live
  have h1 := hL.hn
  have h2 := hL.len
  have h3 := hL.few
  have h4 := says_len h.tells
  rw [← h.num, ← h.fin]
  exact wleft_c g b L.q L.e L.x (by omega) (by rw [h.fin]; omega) (by rw [h.num]; omega) w0 (BoxF.stable hd.1 (fun h => h))
theorem turn_w (b g : Nat) (L : LG) (n : Nat) (t : Int) (said : List (List UInt8)) (h : LgOk L n t said) (w0 : World) (hd : (walI g b L.q L.e L.x).holds w0) : Ret Try.prog 19 [.pointer (some ⟨g, 0, none⟩)] w0 (fun _ => False) fun v _ => v = .int .u32 t := by
  rw [← h.turn]
  exact wturn_c g b L.q L.e L.x w0 (BoxF.stable hd.1 (fun h => h))
theorem walstill_c (pl : Option Addr) (cl : Nat) (acts : List LAct) (x : LAct) (hal : acts.length ≤ maxLen) (hxc : x.keep.length ≤ x.c) (w0 : World) (f0 : Stable (fun _ => False) w0 (GlF pl acts)) (f2 : Stable (fun _ => False) w0 (GlF x.p x.keep)) :
    Ret Try.prog 8 [.slice pl acts.length cl, .agg ⟨cAct x⟩] w0 (fun _ => False) fun v _ => v = .bool true := by
  refine enter Try.func8 rfl rfl (Wd.begin (fs := [GlF pl acts, GlF x.p x.keep]) (by simp; exact ⟨f0, f2⟩)) (fun a S => ?_)
  simp only [Try.ntmps8, List.length_cons, List.length_nil, Nat.reduceAdd, Nat.reduceSub, List.replicate_succ, List.replicate_zero, List.cons_append, List.nil_append] at S
  refine c_seq ?_
  refine c_region ?_
  refine sa S ?_; clear S; intro b3 a w S
  refine sq S ?_; clear S; intro a S
  refine wl_nil ?_
  refine xtn ?_
  iterate 2 (refine c_seq ?_)
  refine c_region ?_
  refine sr S (wakes_c _) ?_; clear S; rintro _ a w rfl S
  refine sq S ?_; clear S; intro a S
  refine wl_nil ?_
  refine xtn ?_
  refine c_condF S ?_
  refine c_skip ?_
  refine xtn ?_
  refine c_seq ?_
  refine c_region ?_
  refine snew S (fresh_l 7 (by omega) _) ?_; clear S; rintro _ a w - ⟨b, g, L, rfl, hok, hoff, hh, hnw⟩ hS -
  have S := hS (lgI b g L) hh hnw
  clear hS
  iterate 5 (refine sq S ?_; clear S; intro a S)
  refine wl_nil ?_
  refine xtn ?_
  iterate 2 (refine c_seq ?_)
  refine c_region ?_
  iterate 2 (refine sq S ?_; clear S; intro a S)
  refine wl_nil ?_
  refine xtn ?_
  refine c_condF S ?_
  refine c_skip ?_
  refine xtn ?_
  iterate 2 (refine c_seq ?_)
  refine c_region ?_
  iterate 2 (refine sq S ?_; clear S; intro a S)
  refine sitM (lgI b g L) S (lived_c b g L 7 0 [[]] pl cl acts hok hoff (by omega) hal (restOf _ (lgI b g L)) _ (S.restOk _) (S.it (lgI b g L)) (Stable.split (lgI b g L) (S.mem.fact (GlF pl acts)))) rfl ?_; clear S; rintro _ a w ⟨L1, t1, p1, c1, ys, rfl, hm1, hL1, ha1, ht1, hp1, hh1, hn1, g1, g2⟩ hS
  have S := hS (lgI b g L1) [] hh1 hn1 (fun Φ hΦ => by cases hΦ)
  clear hS
  iterate 5 (refine sq S ?_; clear S; intro a S)
  refine wl_nil ?_
  refine xtn ?_
  refine c_seq ?_
  refine c_region ?_
  iterate 2 (refine sq S ?_; clear S; intro a S)
  rw [show (!true) = false from rfl] at S
  refine sq S ?_; clear S; intro a S
  refine gT' S ?_
  refine sq S ?_; clear S; intro a S
  refine gT' S ?_
  refine sq S ?_; clear S; intro a S
  refine gT' S ?_
  refine sq S ?_; clear S; intro a S
  refine gT' S ?_
  refine sq S ?_; clear S; intro a S
  refine gT' S ?_
  refine sq S ?_; clear S; intro a S
  refine gT' S ?_
  refine sq S ?_; clear S; intro a S
  obtain ⟨k9, hk9⟩ : ∃ k9, k9 = IntKind.i64.wrap ((IntKind.u64.wrap x.n).tmod 22) := ⟨_, rfl⟩
  rw [← hk9] at S
  obtain ⟨tail1, hlive1, _⟩ := hL1.live
  have hon1 := hlive1.up.on
  refine gT' S ?_
  refine sit (lgI b g L1) S (arm_l b g L1 k9 _ (S.it (lgI b g L1))) rfl ?_; clear S; rintro _ a w ⟨rfl, hh2⟩ hS
  have S := hS (lgI b g (L1.arm k9)) hh2 (fun k hk => .inl hk)
  clear hS
  rw [hon1, if_neg Bool.false_ne_true] at S
  obtain ⟨L2, hL2⟩ : ∃ L2, L2 = L1.arm k9 := ⟨_, rfl⟩
  have hok2 : LgOk L2 7 t1 (bsL ys) := by rw [hL2]; exact hL1.arm k9
  rw [← hL2] at S
  refine gT' S ?_
  refine sq S ?_; clear S; intro a S
  rw [show (!decide ((0 : Int) = 0)) = false from rfl] at S
  refine sq S ?_; clear S; intro a S
  refine wl_nil ?_
  refine xtn ?_
  refine c_condF S ?_
  refine c_skip ?_
  refine xtn ?_
  refine c_seq ?_
  refine c_region ?_
  iterate 2 (refine sq S ?_; clear S; intro a S)
  refine sr S (taking_c x _) ?_; clear S; rintro _ a w rfl S
  obtain ⟨x2, hx2⟩ : ∃ x2, x2 = takingF x := ⟨_, rfl⟩
  rw [← hx2] at S
  refine sit (lgI b g L2) S (take_l b g L2 7 t1 (bsL ys) x2 hok2 (by omega) _ (S.it (lgI b g L2))) rfl ?_; clear S; rintro _ a w ⟨L3, e, rfl, hh3, hn3, hR⟩ hS
  have S := hS (lgI b g L3) hh3 hn3
  clear hS
  obtain ⟨now, next, hfr⟩ : ∃ now next, FindR L3.s 7 e now next := by
    rcases take_find hR hok2 with ⟨_, h⟩ | ⟨_, _, h⟩
    · exact ⟨_, _, h⟩
    · exact ⟨_, _, h⟩
  refine wl_nil ?_
  refine xtn ?_
  iterate 2 (refine c_seq ?_)
  refine c_region ?_
  iterate 2 (refine sq S ?_; clear S; intro a S)
  have hlt := foots_lt S
  refine sr S (kept_c x hxc _ ((S.mem.fact (GlF x.p x.keep)).less fun _ _ h => h.elim)) ?_; clear S; rintro _ a w ⟨p6, c6, rfl, hk6⟩ S
  replace S := S.add (hk6.less fun k _ hk => hlt k hk)
  replace S := S.front (lgI b g L3)
  replace S := S.ofBoth
  refine sit (dkI b L3.m L3.p L3.c L3.s) S (dcrash_c b L3.m L3.p L3.c L3.s (keptF x) p6 c6 _ (by have := hfr.1; omega) (S.it (dkI b L3.m L3.p L3.c L3.s)) (S.lend (dkI b L3.m L3.p L3.c L3.s) (S.mem.fact (GlF p6 (keptF x))))) rfl ?_; clear S; rintro _ a w ⟨rfl, hh4⟩ hS
  have S := hS (dkI b L3.m none 0 (crashD (keptF x) L3.s)) hh4 (fun k hk => .inl (crash_foot k hk))
  clear hS
  obtain ⟨t5, said5, hA5⟩ : ∃ t5 said5, Able (crashD (keptF x) L3.s) 7 t5 said5 := by
    rcases hfr.2 (keptF x) with ⟨t, h⟩ | ⟨_, t, h⟩
    · exact ⟨t, _, h⟩
    · exact ⟨t, _, h⟩
  refine sq S ?_; clear S; intro a S
  refine wl_nil ?_
  refine xtn ?_
  refine c_condF S ?_
  refine c_skip ?_
  refine xtn ?_
  refine c_seq ?_
  refine c_region ?_
  refine sq S ?_; clear S; intro a S
  refine sit (dkI b L3.m none 0 (crashD (keptF x) L3.s)) S (open_l b L3.m none 0 (crashD (keptF x) L3.s) 7 t5 said5 hA5 _ (S.it (dkI b L3.m none 0 (crashD (keptF x) L3.s)))) rfl ?_; clear S; rintro _ a w hcase hS
  obtain ⟨g4, L4, rfl, -, hh5, hn5, hok4, hcl4, -, -⟩ := hcase.resolve_right (fun h => by have := h.1; cases this)
  have S := hS (lgI b g4 L4) hh5 hn5
  clear hS
  have hl4 : L4.s.loose = [] := by obtain ⟨_, h⟩ := hcl4; exact h.loose
  have hon4 := hcl4.live.able.on
  iterate 5 (refine sq S ?_; clear S; intro a S)
  refine wl_nil ?_
  refine xtn ?_
  iterate 2 (refine c_seq ?_)
  refine c_region ?_
  iterate 2 (refine sq S ?_; clear S; intro a S)
  rw [show (!decide ((0 : Int) = 0)) = false from rfl] at S
  refine sq S ?_; clear S; intro a S
  refine gT' S ?_
  refine sq S ?_; clear S; intro a S
  refine gT' S ?_
  have hlg := S.it (lgI b g4 L4)
  refine sr S (dpending_c b L4.m L4.p L4.c L4.s _ (by rw [hl4]; simp) (BoxF.stable hlg.1.1 (fun h => h)) (gl_own hlg.1.2.1.2.1 (fun _ _ _ _ => trivial) (fun _ _ h => h))) ?_; clear S; rintro _ a w ⟨q1, e1, rfl, -, -⟩ S
  rw [hl4] at S
  refine gT' S ?_
  refine sq S ?_; clear S; intro a S
  refine gT' S ?_
  refine sq S ?_; clear S; intro a S
  rw [show (!decide ((([] : List LWr).length : Int) = 0)) = false from rfl] at S
  iterate 2 (refine sq S ?_; clear S; intro a S)
  refine gT' S ?_
  refine sq S ?_; clear S; intro a S
  refine gT' S ?_
  refine sit (lgI b g4 L4) S (arm_l b g4 L4 0 _ (S.it (lgI b g4 L4))) rfl ?_; clear S; rintro _ a w ⟨rfl, hh6⟩ hS
  have S := hS (both (dkI b L4.m L4.p L4.c (armD L4.s 0)) (walI g4 b L4.q L4.e L4.x)) hh6 (fun k hk => .inl hk)
  clear hS
  rw [hon4, if_neg Bool.false_ne_true] at S
  refine gT' S ?_
  refine sq S ?_; clear S; intro a S
  rw [show (!decide ((0 : Int) = 0)) = false from rfl] at S
  refine sq S ?_; clear S; intro a S
  refine wl_nil ?_
  refine xtn ?_
  refine c_condF S ?_
  refine c_skip ?_
  refine xtn ?_
  refine c_seq ?_
  refine c_region ?_
  refine sq S ?_; clear S; intro a S
  replace S := S.ofBoth
  refine sit (dkI b L4.m L4.p L4.c (armD L4.s 0)) S (open_l b L4.m L4.p L4.c (armD L4.s 0) 7 t5 said5 (hcl4.arm 0).live.able _ (S.it (dkI b L4.m L4.p L4.c (armD L4.s 0)))) rfl ?_; clear S; rintro _ a w hcase hS
  obtain ⟨g5, L5, rfl, -, hh7, hn7, hok5, hcl5, -, -⟩ := hcase.resolve_right (fun h => h.2.1 (hcl4.arm 0))
  have S := hS (lgI b g5 L5) hh7 hn7
  clear hS
  have hon5 := hcl5.live.able.on
  iterate 5 (refine sq S ?_; clear S; intro a S)
  refine wl_nil ?_
  refine xtn ?_
  refine c_seq ?_
  refine c_region ?_
  iterate 2 (refine sq S ?_; clear S; intro a S)
  rw [show decide ((0 : Int) = 0) = true from rfl] at S
  refine sq S ?_; clear S; intro a S
  refine gT S ?_
  refine sq S ?_; clear S; intro a S
  refine gT S ?_
  have hlg := S.it (lgI b g5 L5)
  refine sr S (dead_c b L5.m L5.p L5.s.loose.length L5.c L5.s _ (BoxF.stable hlg.1.1 (fun h => h))) ?_; clear S; rintro _ a w rfl S
  rw [hon5] at S
  refine gT S ?_
  refine sq S ?_; clear S; intro a S
  rw [show (!false) = true from rfl] at S
  iterate 2 (refine sq S ?_; clear S; intro a S)
  refine gT S ?_
  refine sq S ?_; clear S; intro a S
  refine gT S ?_
  have hlt := foots_lt S
  have hlim := says_lim hok5.tells
  refine sr S (account_w b g4 L4 said5 hok4.tells _ (S.it (walI g4 b L4.q L4.e L4.x))) ?_; clear S; rintro _ a w ⟨p8, c8, us, rfl, hb8, hp8, g8, g9⟩ S
  replace S := S.add (Φ := GlF p8 us) (g8.less fun k _ hk => hlt k hk)
  replace S := S.add (Φ := AllBy us) (g9.less fun k _ hk => hlt k hk)
  refine gT S ?_
  refine sq S ?_; clear S; intro a S
  refine gT S ?_
  have hlt := foots_lt S
  refine sr S (account_f b g5 L5 said5 hok5.tells _ (S.it (lgI b g5 L5))) ?_; clear S; rintro _ a w ⟨p9, c9, vs, rfl, hb9, hp9, g10, g11⟩ S
  replace S := S.add (Φ := GlF p9 vs) (g10.less fun k _ hk => hlt k hk)
  replace S := S.add (Φ := AllBy vs) (g11.less fun k _ hk => hlt k hk)
  refine gT S ?_
  refine sr S (equal_f (A := said5) (B := said5) hb8 hb9 hlim hlim _ ((S.mem.fact (GlF p8 us)).less fun _ _ h => h.elim) ((S.mem.fact (AllBy us)).less fun _ _ h => h.elim) ((S.mem.fact (GlF p9 vs)).less fun _ _ h => h.elim) ((S.mem.fact (AllBy vs)).less fun _ _ h => h.elim)) ?_; clear S; rintro _ a w rfl S
  rw [show decide (said5 = said5) = true from decide_eq_true rfl] at S
  iterate 2 (refine sq S ?_; clear S; intro a S)
  refine gT S ?_
  refine sq S ?_; clear S; intro a S
  refine gT S ?_
  refine sr S (left_w b g4 L4 7 t5 said5 hok4 _ (S.it (walI g4 b L4.q L4.e L4.x))) ?_; clear S; rintro _ a w rfl S
  refine gT S ?_
  refine sq S ?_; clear S; intro a S
  refine gT S ?_
  refine sr S (lg_left b g5 L5 7 t5 said5 hok5 _ (S.it (lgI b g5 L5))) ?_; clear S; rintro _ a w rfl S
  refine gT S ?_
  refine sq S ?_; clear S; intro a S
  rw [decide_eq_true rfl] at S
  iterate 2 (refine sq S ?_; clear S; intro a S)
  refine gT S ?_
  refine sq S ?_; clear S; intro a S
  refine gT S ?_
  refine sr S (turn_w b g4 L4 7 t5 said5 hok4 _ (S.it (walI g4 b L4.q L4.e L4.x))) ?_; clear S; rintro _ a w rfl S
  refine gT S ?_
  refine sq S ?_; clear S; intro a S
  refine gT S ?_
  refine sr S (lg_turn b g5 L5 7 t5 said5 hok5 _ (S.it (lgI b g5 L5))) ?_; clear S; rintro _ a w rfl S
  refine gT S ?_
  refine sq S ?_; clear S; intro a S
  rw [show decide (t5 = t5) = true from decide_eq_true rfl] at S
  iterate 2 (refine sq S ?_; clear S; intro a S)
  refine wl_nil ?_
  refine xtn ?_
  refine c_ret ?_
  exact end1 S (fun _ => rfl)
end Go.Proofs.Ythffheckghdelaa

/- WalRoom, WalLasts and WalStill answer true at every input and leave it as it was. No condition. -/
namespace Go.Proofs.Ythffheckghdelaa
open Go Go.Wk
open Go.ChangeShapes Go.WideShapes Go.ChangeAt Go.RowKit
set_option maxRecDepth 100000

instance troInt4 : Tro Try.prog 3 Int := troI Try.underlying3 (by kernel_rfl)
instance troBool4 : Tro Try.prog 4 Bool := troBo Try.underlying4 (by kernel_rfl)
instance troBools4 : Tro Try.prog 31 (Sl Bool) := troSl Try.underlying31 (by kernel_rfl)
instance troAct : Tro Try.prog 33 LAct := ⟨fun enc w base spare held fuel cs x h => by
  obtain ⟨hlen, hf⟩ := trod_flds Try.underlying33 h
  rw [show Try.prog.cellsOf 33 = 4 from by kernel_rfl] at hlen
  obtain ⟨n0, y0, g0⟩ := hf 0 3 0 rfl
  obtain ⟨n1, y1, g1⟩ := hf 1 3 1 rfl
  obtain ⟨n2, y2, g2⟩ := hf 2 5 2 rfl
  obtain ⟨n3, y3, g3⟩ := hf 3 31 3 rfl
  obtain ⟨u0, e0, i0⟩ := trod_fld (α := Int) g0 rfl
  obtain ⟨u1, e1, i1⟩ := trod_fld (α := Int) g1 rfl
  obtain ⟨u2, e2, i2⟩ := trod_fld (α := UInt8) g2 rfl
  obtain ⟨u3, e3, i3⟩ := trod_fld (α := Sl Bool) g3 rfl
  refine ⟨⟨u0, u1, u2, u3.p, u3.cap, u3.xs⟩, ?_, i3⟩
  match cs, hlen with
  | [c0, c1, c2, c3], _ =>
    have q0 : [c0] = [.int .i64 u0] := e0
    have q1 : [c1] = [.int .i64 u1] := e1
    have q2 : [c2] = [.int .u8 (u2.toNat : Int)] := e2
    have q3 : [c3] = [u3.v] := e3
    simp only [List.cons.injEq, and_true] at q0 q1 q2 q3
    rw [q0, q1, q2, q3]; rfl, by kernel_rfl⟩
instance troActs : Tro Try.prog 25 (Sl LAct) := troSl Try.underlying25 (by kernel_rfl)
theorem walroom_lifted (os : Os) (started : os.Started) (H : Type) (enc : TypeId × Value → H) :
    ReturnsInHanded {} Try.checked os 4 .any (Rows.walRoomSpec.pre6 enc Try.prog Try.f4 Rows.walRoomRow.domain false) (Rows.walRoomSpec.post enc Try.prog Try.f4 false true false false) := by
  refine returnsInHanded_of_change (C := Try.checked) own started (by kernel_rfl) Try.func4
    (ChangeSpec.witness6 (enc := enc) (C := Try.checked) false ⟨#[], #[.int .i64 0, .slice none 0 0], []⟩ 8 (by kernel_rfl) (by kernel_rfl) (by kernel_rfl) (by kernel_rfl)) ?_
  intro W base args ds gs before hval0 hW _ _
  have hval : ∀ (j : Nat) t v, Try.f4.params[j]? = some t → args[j]? = some v → Value.okWide Try.prog W .any base t v := hval0
  have hW2 := hW
  obtain ⟨p, q, hA0, hV, rfl, _, _⟩ := hW
  have hA : DataW.TrodAll enc Try.prog W 0 (fun _ => true) true Try.f4.params.toList args.toList ds p := hA0
  rw [Try.params4] at hA hval
  obtain ⟨v0, v1, d0, d1, p0, p1, rfl, rfl, rfl, h0, h1⟩ := trodAll_two hA
  obtain ⟨rfl, rfl⟩ := trodVars_none hV
  obtain ⟨n, rfl, rfl, rfl, wn⟩ := open_int Try.underlying3 (hval 0 3 v0 rfl rfl) h0
  obtain ⟨x, rfl, l_x, m_x, h_x⟩ := slice_of_Trod (α := LAct) Try.underlying25 h1 (hval 1 25 v1 rfl rfl)
  refine Ret.law (walroom_c n x.p x.cap x.xs (by omega) W h_x.stable) fun W1 hag => ?_
  exact ⟨_, rfl, law_post (B := 4) laidOut (by kernel_rfl) rfl rfl rfl hW2 rfl rfl rfl hag⟩
theorem walroom_holds : Rows.WalRoomSaid :=
  OpenClaim.holds_of_wide 4 Try.f4 rfl rfl rfl rfl rfl rfl rfl ⟨rfl, rfl, rfl, rfl, rfl⟩ rfl rfl rfl rfl rfl (by kernel_rfl) Try.func4 (by kernel_rfl)
    (of_decide_eq_true (by kernel_rfl)) (by unfold Func.isWrapper; rw [if_neg (of_decide_eq_false (by kernel_rfl))]; exact ⟨rfl, rfl⟩)
    (fun os started H enc _ => walroom_lifted os started H enc)
theorem wallasts_lifted (os : Os) (started : os.Started) (H : Type) (enc : TypeId × Value → H) :
    ReturnsInHanded {} Try.checked os 7 .any (Rows.walLastsSpec.pre6 enc Try.prog Try.f7 Rows.walLastsRow.domain false) (Rows.walLastsSpec.post enc Try.prog Try.f7 false true false false) := by
  refine returnsInHanded_of_change (C := Try.checked) own started (by kernel_rfl) Try.func7
    (ChangeSpec.witness6 (enc := enc) (C := Try.checked) false ⟨#[], #[.slice none 0 0, .agg #[.int .i64 0, .int .i64 0, .int .u8 0, .slice none 0 0], .slice none 0 0], []⟩ 8 (by kernel_rfl) (by kernel_rfl) (by kernel_rfl) (by kernel_rfl)) ?_
  intro W base args ds gs before hval0 hW _ _
  have hval : ∀ (j : Nat) t v, Try.f7.params[j]? = some t → args[j]? = some v → Value.okWide Try.prog W .any base t v := hval0
  have hW2 := hW
  obtain ⟨p, q, hA0, hV, rfl, _, _⟩ := hW
  have hA : DataW.TrodAll enc Try.prog W 0 (fun _ => true) true Try.f7.params.toList args.toList ds p := hA0
  rw [Try.params7] at hA hval
  obtain ⟨v0, v1, v2, d0, d1, d2, p0, p1, p2, rfl, rfl, rfl, h0, h1, h2⟩ := trodAll_three hA
  obtain ⟨rfl, rfl⟩ := trodVars_none hV
  obtain ⟨x, rfl, l_x, m_x, h_x⟩ := slice_of_Trod (α := LAct) Try.underlying25 h0 (hval 0 25 v0 rfl rfl)
  obtain ⟨y, rfl, h_y⟩ := struct_of_Trod (α := LAct) Try.underlying33 h1 (hval 1 33 v1 rfl rfl)
  obtain ⟨z, rfl, l_z, m_z, h_z⟩ := slice_of_Trod (α := LAct) Try.underlying25 h2 (hval 2 25 v2 rfl rfl)
  refine Ret.law (wallasts_c x.p x.cap x.xs y z.p z.cap z.xs (by omega) (by omega) h_y.1 W h_x.stable h_z.stable h_y.2.2.stable) fun W1 hag => ?_
  exact ⟨_, rfl, law_post (B := 4) laidOut (by kernel_rfl) rfl rfl rfl hW2 rfl rfl rfl hag⟩
theorem wallasts_holds : Rows.WalLastsSaid :=
  OpenClaim.holds_of_wide 7 Try.f7 rfl rfl rfl rfl rfl rfl rfl ⟨rfl, rfl, rfl, rfl, rfl⟩ rfl rfl rfl rfl rfl (by kernel_rfl) Try.func7 (by kernel_rfl)
    (of_decide_eq_true (by kernel_rfl)) (by unfold Func.isWrapper; rw [if_neg (of_decide_eq_false (by kernel_rfl))]; exact ⟨rfl, rfl⟩)
    (fun os started H enc _ => wallasts_lifted os started H enc)
theorem walstill_lifted (os : Os) (started : os.Started) (H : Type) (enc : TypeId × Value → H) :
    ReturnsInHanded {} Try.checked os 8 .any (Rows.walStillSpec.pre6 enc Try.prog Try.f8 Rows.walStillRow.domain false) (Rows.walStillSpec.post enc Try.prog Try.f8 false true false false) := by
  refine returnsInHanded_of_change (C := Try.checked) own started (by kernel_rfl) Try.func8
    (ChangeSpec.witness6 (enc := enc) (C := Try.checked) false ⟨#[], #[.slice none 0 0, .agg #[.int .i64 0, .int .i64 0, .int .u8 0, .slice none 0 0]], []⟩ 8 (by kernel_rfl) (by kernel_rfl) (by kernel_rfl) (by kernel_rfl)) ?_
  intro W base args ds gs before hval0 hW _ _
  have hval : ∀ (j : Nat) t v, Try.f8.params[j]? = some t → args[j]? = some v → Value.okWide Try.prog W .any base t v := hval0
  have hW2 := hW
  obtain ⟨p, q, hA0, hV, rfl, _, _⟩ := hW
  have hA : DataW.TrodAll enc Try.prog W 0 (fun _ => true) true Try.f8.params.toList args.toList ds p := hA0
  rw [Try.params8] at hA hval
  obtain ⟨v0, v1, d0, d1, p0, p1, rfl, rfl, rfl, h0, h1⟩ := trodAll_two hA
  obtain ⟨rfl, rfl⟩ := trodVars_none hV
  obtain ⟨x, rfl, l_x, m_x, h_x⟩ := slice_of_Trod (α := LAct) Try.underlying25 h0 (hval 0 25 v0 rfl rfl)
  obtain ⟨y, rfl, h_y⟩ := struct_of_Trod (α := LAct) Try.underlying33 h1 (hval 1 33 v1 rfl rfl)
  refine Ret.law (walstill_c x.p x.cap x.xs y (by omega) h_y.1 W h_x.stable h_y.2.2.stable) fun W1 hag => ?_
  exact ⟨_, rfl, law_post (B := 4) laidOut (by kernel_rfl) rfl rfl rfl hW2 rfl rfl rfl hag⟩
theorem walstill_holds : Rows.WalStillSaid :=
  OpenClaim.holds_of_wide 8 Try.f8 rfl rfl rfl rfl rfl rfl rfl ⟨rfl, rfl, rfl, rfl, rfl⟩ rfl rfl rfl rfl rfl (by kernel_rfl) Try.func8 (by kernel_rfl)
    (of_decide_eq_true (by kernel_rfl)) (by unfold Func.isWrapper; rw [if_neg (of_decide_eq_false (by kernel_rfl))]; exact ⟨rfl, rfl⟩)
    (fun os started H enc _ => walstill_lifted os started H enc)
end Go.Proofs.Ythffheckghdelaa
