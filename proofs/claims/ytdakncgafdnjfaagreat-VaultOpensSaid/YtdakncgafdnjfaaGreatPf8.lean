/- 8: a part of this claim's texts, joined: VaultG VaultH VaultI W11 W12 W13 TermI PlainDecB PlainDecC PlainVaultD PlainVaultJ RefBytes TermJ TermK TermL TermM. -/
import Derived.Test.YtdakncgafdnjfaaGreatPf7
import Derived.SizedLaws
import Derived.OpenShut
import Derived.Lib.ConvBytes
namespace Go.Proofs.YtdakncgafdnjfaaGreat
open Go Go.Wk
set_option synthInstance.maxSize 100000
set_option synthInstance.maxHeartbeats 400000
set_option maxRecDepth 100000
structure VT where
  L : LG
  p : Option Addr
  c : Nat
  xs : List LRow
abbrev cVt (g : Nat) (V : VT) : List Value := [.pointer (some ⟨g, 0, none⟩), .slice V.p V.xs.length V.c]
abbrev rwI (V : VT) : Wk.Item := Wk.row 150 6 V.p V.xs.length V.c (encL V.xs)
abbrev vtI (h b g : Nat) (V : VT) : Wk.Item := both (Wk.box h 144 (cVt g V)) (both (lgI b g V.L) (rwI V))
def encE (l : List PRow) : Int := if batchP l then 0 else 2
def encQ (l : List PRow) : List UInt8 := if batchP l then encP l else []
theorem vencode_q (xs : List LRow) (p : Option Addr) (n c : Nat) (w0 : World) (hn : xs.length = n) (hc : n ≤ c) (hl : ∀ x ∈ xs, x.name.length ≤ 9223372036854775807) (hll : n ≤ 9223372036854775807) (hx : Stable (fun _ => False) w0 (GlF p xs)) :
    Ret Tryz.prog 14 [.slice p n c] w0 (fun _ => False) fun v w' => ∃ (p' : Option Addr) (c' : Nat), v = .tuple ⟨[.slice p' (encQ (rsP xs)).length c', .int .i64 (encE (rsP xs))]⟩ ∧ w'.ownsRow 0 5 1 (.slice p' (encQ (rsP xs)).length c') (encQ (rsP xs)).length (encL (encQ (rsP xs))) ∧ ∀ ad, p' = some ad → w0.heap.size ≤ ad.block := by
  refine (vencode_c xs p n c w0 hn hc hl hll hx).mono fun v w' => ?_
  rintro (⟨hb, rfl⟩ | ⟨hb, h⟩)
  · rw [encQ, encE, hb]
    exact ⟨none, 0, rfl, World.ownsRow_nil _ _ _ _, fun _ h => by cases h⟩
  · rw [encQ, encE, hb]
    exact h
theorem vput_c (h b g : Nat) (V : VT) (l : List LRow) (q : Option Addr) (d k : Nat) (hwf : V.L.v.Wf k) (hk : k ≤ 970000) (hkp : KeptP (rsP V.xs)) (hxl : V.xs.length ≤ 64) (hll : l.length ≤ 200) (hnl : ∀ x ∈ l, x.name.length ≤ 9223372036854775807) (hdl : l.length ≤ d) (w0 : World) (hd : (vtI h b g V).holds w0) (fA : Stable (vtI h b g V).foot w0 (AllI V.xs)) (fl : Stable (vtI h b g V).foot w0 (GlF q l)) :
    Ret Tryz.prog 29 [.pointer (some ⟨h, 0, none⟩), .slice q l.length d] w0 (vtI h b g V).foot fun v w' => ∃ V', v = .int .i64 (putV V.L.v (rsP V.xs) (rsP l)).2.2 ∧ (vtI h b g V').holds w' ∧ (∀ k, (vtI h b g V').foot k → (vtI h b g V).foot k ∨ w0.heap.size ≤ k) ∧ V'.L.m = V.L.m ∧ V'.L.v = (putV V.L.v (rsP V.xs) (rsP l)).1 ∧ rsP V'.xs = (putV V.L.v (rsP V.xs) (rsP l)).2.1 ∧ ∀ y ∈ V'.xs, y ∈ V.xs ∨ y ∈ l := by
  obtain ⟨L, p, c, xs⟩ := V
  have hxl : xs.length ≤ 64 := hxl
  have hkp : KeptP (rsP xs) := hkp
  have hwf : L.v.Wf k := hwf
  have hn1 := hwf.n
  have hn2 := hwf.fin
  refine enter Tryz.func29 rfl rfl (Wd.it2Lent (x := Wk.box h 144 (cVt g ⟨L, p, c, xs⟩)) (y := both (lgI b g L) (rwI ⟨L, p, c, xs⟩)) (fs := [AllI xs, GlF q l]) hd rfl rfl (by simp; exact ⟨fA, fl⟩)) (fun a S => ?_)
  simp only [Tryz.ntmps29, List.length_cons, List.length_nil, Nat.reduceAdd, Nat.reduceSub, List.replicate_succ, List.replicate_zero, List.cons_append, List.nil_append] at S
  refine c_seq ?_; refine c_region ?_; refine sq S ?_; clear S; intro a S; refine wl_nil ?_; refine xtn ?_; refine c_seq ?_; refine c_block ?_; refine c_seq ?_; refine c_region ?_; (iterate 3 (refine sq S ?_; clear S; intro a S)); refine wl_nil ?_; refine xtn ?_; refine c_condF S ?_; refine c_seq ?_; refine c_region ?_; (iterate 4 (refine sq S ?_; clear S; intro a S))
  replace S := S.front (both (lgI b g L) (rwI ⟨L, p, c, xs⟩))
  replace S := S.ofBoth
  refine sr S (broken_v b g L _ (S.it (lgI b g L))) ?_; clear S; rintro _ a w rfl S
  refine sq S ?_; clear S; intro a S; refine wl_nil ?_; refine xtn ?_
  refine c_cond S (fun h3 => ?_) (fun h3 => ?_)
  · refine c_seq ?_; refine c_region ?_; refine sq S ?_; clear S; intro a S; refine wl_nil ?_; refine xtn ?_; refine c_ret ?_; refine xbr ?_; refine xtr ?_
    have hv : putV L.v (rsP xs) (rsP l) = (L.v, rsP xs, 8) := by rw [putV, if_pos h3]
    replace S := (((S.front (rwI ⟨L, p, c, xs⟩)).front (lgI b g L)).toBoth.front (Wk.box h 144 (cVt g ⟨L, p, c, xs⟩))).toBoth
    have h1 := S.it (vtI h b g ⟨L, p, c, xs⟩)
    have h2 := S.itNew (vtI h b g ⟨L, p, c, xs⟩) rfl
    exact end1 S (fun _ => ⟨⟨L, p, c, xs⟩, by rw [hv], h1, h2, rfl, by rw [hv], by rw [hv], fun y hy => .inl hy⟩)
  · refine c_skip ?_; refine xbn ?_; refine xtn ?_; refine c_seq ?_; refine c_region ?_; refine sq S ?_; clear S; intro a S
    have hbr : ¬ L.v.broken = true := by simpa using h3
    refine srn S (vencode_q l q l.length d _ rfl hdl hnl (by omega) (S.gl0 q)) ?_; clear S; rintro _ a w ⟨p5, c5, rfl, hown, hnew⟩ hS -
    have S := hS hown hnew
    clear hS
    (iterate 5 (refine sq S ?_; clear S; intro a S)); refine wl_nil ?_; refine xtn ?_; (iterate 2 (refine c_seq ?_)); refine c_region ?_; (iterate 2 (refine sq S ?_; clear S; intro a S)); refine wl_nil ?_; refine xtn ?_
    refine c_cond S (fun h6 => ?_) (fun h6 => ?_)
    · refine c_seq ?_; refine c_region ?_; (iterate 2 (refine sq S ?_; clear S; intro a S)); refine wl_nil ?_; refine xtn ?_; refine c_ret ?_; refine xtr ?_
      have hB : batchP (rsP l) = false := by
        cases hb : batchP (rsP l) with
        | false => rfl
        | true => rw [encE, hb] at h6; simp at h6
      have hv : putV L.v (rsP xs) (rsP l) = (L.v, rsP xs, 2) := by rw [putV, if_neg hbr, if_pos hB]
      have he : encE (rsP l) = 2 := by rw [encE, hB]; rfl
      replace S := (((S.front (rwI ⟨L, p, c, xs⟩)).front (lgI b g L)).toBoth.front (Wk.box h 144 (cVt g ⟨L, p, c, xs⟩))).toBoth
      have h1 := S.it (vtI h b g ⟨L, p, c, xs⟩)
      have h2 := S.itNew (vtI h b g ⟨L, p, c, xs⟩) rfl
      exact end1 S (fun _ => ⟨⟨L, p, c, xs⟩, by rw [hv, he], h1, h2, rfl, by rw [hv], by rw [hv], fun y hy => .inl hy⟩)
    · refine c_skip ?_; refine xtn ?_; refine c_seq ?_
      have hB : batchP (rsP l) = true := by
        cases hb : batchP (rsP l) with
        | true => rfl
        | false => rw [encE, hb] at h6; simp at h6
      have hQ : encQ (rsP l) = encP (rsP l) := by rw [encQ, hB]; rfl
      have hQl := encP_len hB
      rw [hQ] at S
      refine c_region ?_; (iterate 5 (refine sq S ?_; clear S; intro a S))
      refine srn S (vbehind_c xs p c l q d w (by omega) (by omega) (gl_own (S.row p xs.length) ((S.mem.fact (AllI xs)).less fun _ _ h => h.elim) (fun _ _ h => h)) (S.gl0 q) hkp.up) ?_; clear S; rintro _ a w ⟨ys, p8, c8, rfl, hown8, hnew8, hys, hmem⟩ hS -
      have S := hS hown8 hnew8
      clear hS
      have hyl : ys.length = (behP (rsP xs) (rsP l)).length := by rw [← hys, rsP_len]
      have hky : KeptP (rsP ys) := by rw [hys]; exact keptP_beh hkp hB
      refine sq S ?_; clear S; intro a S; refine wl_nil ?_; refine xtn ?_; (iterate 2 (refine c_seq ?_)); refine c_region ?_; (iterate 3 (refine sq S ?_; clear S; intro a S)); refine wl_nil ?_; refine xtn ?_
      refine c_cond S (fun h9 => ?_) (fun h9 => ?_)
      · refine c_seq ?_; refine c_region ?_; refine sq S ?_; clear S; intro a S; refine wl_nil ?_; refine xtn ?_; refine c_ret ?_; refine xtr ?_
        have h9' : 64 < (behP (rsP xs) (rsP l)).length := by have := of_decide_eq_true h9; omega
        have hv : putV L.v (rsP xs) (rsP l) = (L.v, rsP xs, 6) := by rw [putV, if_neg hbr, if_neg (by rw [hB]; simp), if_pos h9']
        replace S := (((S.front (rwI ⟨L, p, c, xs⟩)).front (lgI b g L)).toBoth.front (Wk.box h 144 (cVt g ⟨L, p, c, xs⟩))).toBoth
        have h1 := S.it (vtI h b g ⟨L, p, c, xs⟩)
        have h2 := S.itNew (vtI h b g ⟨L, p, c, xs⟩) rfl
        exact end1 S (fun _ => ⟨⟨L, p, c, xs⟩, by rw [hv], h1, h2, rfl, by rw [hv], by rw [hv], fun y hy => .inl hy⟩)
      · refine c_skip ?_; refine xtn ?_
        refine c_mrge2 S (fun (L2 : LG) (e : Int) uu => [(5, uu 5), (0, .int .i64 e), (1, uu 8), (26, uu 35), (0, uu 36), (0, uu 37), (0, uu 38), (0, uu 39), (0, uu 40), (0, uu 41), (0, uu 42), (0, uu 43), (0, uu 44), (0, uu 45), (0, uu 46), (0, uu 47), (0, uu 48), (0, uu 49), (0, uu 50), (0, uu 51), (0, uu 52), (0, uu 53), (0, uu 54), (0, uu 55), (0, uu 56), (0, uu 57), (0, uu 58), (0, uu 59), (0, uu 60), (0, uu 61), (0, uu 62), (0, uu 63), (0, uu 64), (0, uu 65), (0, uu 66), (0, uu 67), (0, uu 68), (0, uu 69)]) (fun (L2 : LG) (e : Int) => [lgI b g L2, Wk.row 150 6 p8 ys.length c8 (encL ys), Wk.box h 144 (cVt g ⟨L, p, c, xs⟩), rwI ⟨L, p, c, xs⟩]) (fun (L2 : LG) (e : Int) => [AllI ys, AllI xs, GlF q l]) (fun (L2 : LG) (e : Int) => L2.m = L.m ∧ L2.v = (putR L.v (rsP xs) (rsP l)).1 ∧ e = (putR L.v (rsP xs) (rsP l)).2) ?_ ?_
        · refine c_seq ?_
          have h9' : ¬ 64 < (behP (rsP xs) (rsP l)).length := by have := of_decide_eq_false h9; omega
          replace S := S.add (Φ := AllI ys) (fun w' hw' y hy => (hmem y hy).elim (fun h => S.wd.facts (AllI xs) (by simp) w' hw' y h) (fun h => (S.wd.facts (GlF q l) (by simp) w' hw').2 y h))
          refine c_region ?_; (iterate 2 (refine sq S ?_; clear S; intro a S))
          refine sr S (sectors_c ((encP (rsP l)).length : Int) _) ?_; clear S; rintro _ a w rfl S
          refine sq S ?_; clear S; intro a S; refine wl_nil ?_; refine xtn ?_; refine c_seq ?_; refine c_region ?_; (iterate 3 (refine sq S ?_; clear S; intro a S))
          refine gS S (fun hs1 S => ?_) (fun hs1 S => ?_)
          · refine gT S ?_; refine sq S ?_; clear S; intro a S; refine gT S ?_; refine sq S ?_; clear S; intro a S; refine gT S ?_; refine sq S ?_; clear S; intro a S; refine gT S ?_; refine sq S ?_; clear S; intro a S; refine gT S ?_; refine sq S ?_; clear S; intro a S; refine gT S ?_
            refine sr S (left_v b g L k hwf _ (S.it (lgI b g L))) ?_; clear S; rintro _ a w rfl S
            refine gT S ?_; (iterate 2 (refine sq S ?_; clear S; intro a S)); refine wl_nil ?_; refine xtn ?_
            refine c_cond S (fun h12 => ?_) (fun h12 => ?_)
            · refine c_region ?_; (iterate 5 (refine sq S ?_; clear S; intro a S))
              have hfit : fitsV L.v (encP (rsP l)) = true := by rw [fitsV, hs1, h12]; rfl
              have hsm := (secF_pos (of_decide_eq_true hs1)).2
              replace S := (S.front (Wk.row 5 1 p5 (encP (rsP l)).length c5 (encL (encP (rsP l))))).rowToGl p5 (encP (rsP l)) (e := 5) (sz := 1) (n := (encP (rsP l)).length) (c := c5) (fun _ _ _ _ => trivial)
              refine sit (lgI b g L) S (append_v b g L k ⟨p5, c5, encP (rsP l)⟩ hwf (by omega) (by show (encP (rsP l)).length ≤ _; omega) w (S.it (lgI b g L)) (S.lend (lgI b g L) (S.mem.fact (GlF p5 (encP (rsP l)))))) rfl ?_; clear S; rintro _ a w ⟨L2, rfl, hh2, hf2, hm2, hv2⟩ hS
              have S := hS (lgI b g L2) hh2 hf2
              clear hS
              refine sq S ?_; clear S; intro a S; refine wl_nil ?_; refine xtn ?_
              replace S := ((S.front (rwI ⟨L, p, c, xs⟩)).front (Wk.box h 144 (cVt g ⟨L, p, c, xs⟩))).front (Wk.row 150 6 p8 ys.length c8 (encL ys))
              replace S := S.front (lgI b g L2)
              exact ⟨L2, _, S.uu, ⟨hm2, by rw [putR, if_pos hfit]; exact hv2, by rw [putR, if_pos hfit]⟩, S.sub _ _⟩
            · refine c_seq ?_; refine c_region ?_; refine sq S ?_; clear S; intro a S
              have hfit : fitsV L.v (encP (rsP l)) = false := by
                rw [fitsV]
                first
                  | rw [hs1, h12]; rfl
                  | rw [hs1]; rfl
              have hlt := foots_lt S
              refine sr S (all_vf p8 ys.length c8 w) ?_; clear S; rintro _ a w ⟨g1, rfl, n1, f1⟩ S
              replace S := S.add (Φ := BoxF g1 142 [.slice p8 ys.length c8]) (BoxF.stable f1 (fun hm => by have := hlt _ hm; omega))
              refine srn S (collectR_c g1 ys p8 c8 (by omega) w ((S.mem.fact (BoxF g1 142 [.slice p8 ys.length c8])).less fun _ _ h => h.elim) (gl_own (S.row p8 ys.length) ((S.mem.fact (AllI ys)).less fun _ _ h => h.elim) (fun _ _ h => h))) ?_; clear S; rintro _ a w ⟨p9, c9, rfl, hown9, hnew9⟩ hS -
              have S := hS hown9 hnew9
              clear hS
              have hByes : batchP (rsP ys) = true := keptP_batch hky (by rw [rsP_len]; omega)
              have hn9 : ∀ x ∈ ys, x.name.length ≤ 9223372036854775807 := fun x hx => by have := (rightP_name (hky.right _ (rsP_mem hx))).2; have : x.name.length ≤ 32 := this; omega
              refine srn S (vencode_q ys p9 ys.length c9 _ rfl (own_le (S.row p9 ys.length)) hn9 (by omega) (gl_own (S.row p9 ys.length) ((S.mem.fact (AllI ys)).less fun _ _ h => h.elim) (fun _ _ h => h))) ?_; clear S; rintro _ a w ⟨p10, c10, rfl, hown10, hnew10⟩ hS -
              have S := hS hown10 hnew10
              clear hS
              have hQ2 : encQ (rsP ys) = encP (rsP ys) := by rw [encQ, hByes]; rfl
              have hE2 : encE (rsP ys) = 0 := by rw [encE, hByes]; rfl
              have hQl2 := encP_len hByes
              rw [hQ2, hE2] at S
              (iterate 5 (refine sq S ?_; clear S; intro a S)); refine wl_nil ?_; refine xtn ?_; refine c_seq ?_; refine c_region ?_; (iterate 2 (refine sq S ?_; clear S; intro a S)); refine wl_nil ?_; refine xtn ?_; refine c_condT S ?_; refine c_region ?_; (iterate 5 (refine sq S ?_; clear S; intro a S))
              replace S := (S.front (Wk.row 5 1 p10 (encP (rsP ys)).length c10 (encL (encP (rsP ys))))).rowToGl p10 (encP (rsP ys)) (e := 5) (sz := 1) (n := (encP (rsP ys)).length) (c := c10) (fun _ _ _ _ => trivial)
              refine sit (lgI b g L) S (chk_v b g L k ⟨p10, c10, encP (rsP ys)⟩ hwf (by omega) (by show (encP (rsP ys)).length ≤ _; omega) w (S.it (lgI b g L)) (S.lend (lgI b g L) (S.mem.fact (GlF p10 (encP (rsP ys)))))) rfl ?_; clear S; rintro _ a w ⟨L2, rfl, hh2, hf2, hm2, hv2⟩ hS
              have S := hS (lgI b g L2) hh2 hf2
              clear hS
              refine sq S ?_; clear S; intro a S; refine wl_nil ?_; refine xtn ?_
              replace S := ((S.front (rwI ⟨L, p, c, xs⟩)).front (Wk.box h 144 (cVt g ⟨L, p, c, xs⟩))).front (Wk.row 150 6 p8 ys.length c8 (encL ys))
              replace S := S.front (lgI b g L2)
              exact ⟨L2, _, S.uu, ⟨hm2, by rw [putR, hfit, ← hys]; exact hv2, by rw [putR, hfit, ← hys]; rfl⟩, S.sub _ _⟩
          · refine gF S ?_; clear S; intro a S; (iterate 6 (refine gF S ?_; clear S; intro a S)); refine sq S ?_; clear S; intro a S; refine wl_nil ?_; refine xtn ?_; refine c_condF S ?_; refine c_seq ?_; refine c_region ?_; refine sq S ?_; clear S; intro a S
            have hfit : fitsV L.v (encP (rsP l)) = false := by
              rw [fitsV]
              first
                | rw [hs1, h12]; rfl
                | rw [hs1]; rfl
            have hlt := foots_lt S
            refine sr S (all_vf p8 ys.length c8 w) ?_; clear S; rintro _ a w ⟨g1, rfl, n1, f1⟩ S
            replace S := S.add (Φ := BoxF g1 142 [.slice p8 ys.length c8]) (BoxF.stable f1 (fun hm => by have := hlt _ hm; omega))
            refine srn S (collectR_c g1 ys p8 c8 (by omega) w ((S.mem.fact (BoxF g1 142 [.slice p8 ys.length c8])).less fun _ _ h => h.elim) (gl_own (S.row p8 ys.length) ((S.mem.fact (AllI ys)).less fun _ _ h => h.elim) (fun _ _ h => h))) ?_; clear S; rintro _ a w ⟨p9, c9, rfl, hown9, hnew9⟩ hS -
            have S := hS hown9 hnew9
            clear hS
            have hByes : batchP (rsP ys) = true := keptP_batch hky (by rw [rsP_len]; omega)
            have hn9 : ∀ x ∈ ys, x.name.length ≤ 9223372036854775807 := fun x hx => by have := (rightP_name (hky.right _ (rsP_mem hx))).2; have : x.name.length ≤ 32 := this; omega
            refine srn S (vencode_q ys p9 ys.length c9 _ rfl (own_le (S.row p9 ys.length)) hn9 (by omega) (gl_own (S.row p9 ys.length) ((S.mem.fact (AllI ys)).less fun _ _ h => h.elim) (fun _ _ h => h))) ?_; clear S; rintro _ a w ⟨p10, c10, rfl, hown10, hnew10⟩ hS -
            have S := hS hown10 hnew10
            clear hS
            have hQ2 : encQ (rsP ys) = encP (rsP ys) := by rw [encQ, hByes]; rfl
            have hE2 : encE (rsP ys) = 0 := by rw [encE, hByes]; rfl
            have hQl2 := encP_len hByes
            rw [hQ2, hE2] at S
            (iterate 5 (refine sq S ?_; clear S; intro a S)); refine wl_nil ?_; refine xtn ?_; refine c_seq ?_; refine c_region ?_; (iterate 2 (refine sq S ?_; clear S; intro a S)); refine wl_nil ?_; refine xtn ?_; refine c_condT S ?_; refine c_region ?_; (iterate 5 (refine sq S ?_; clear S; intro a S))
            replace S := (S.front (Wk.row 5 1 p10 (encP (rsP ys)).length c10 (encL (encP (rsP ys))))).rowToGl p10 (encP (rsP ys)) (e := 5) (sz := 1) (n := (encP (rsP ys)).length) (c := c10) (fun _ _ _ _ => trivial)
            refine sit (lgI b g L) S (chk_v b g L k ⟨p10, c10, encP (rsP ys)⟩ hwf (by omega) (by show (encP (rsP ys)).length ≤ _; omega) w (S.it (lgI b g L)) (S.lend (lgI b g L) (S.mem.fact (GlF p10 (encP (rsP ys)))))) rfl ?_; clear S; rintro _ a w ⟨L2, rfl, hh2, hf2, hm2, hv2⟩ hS
            have S := hS (lgI b g L2) hh2 hf2
            clear hS
            refine sq S ?_; clear S; intro a S; refine wl_nil ?_; refine xtn ?_
            replace S := ((S.front (rwI ⟨L, p, c, xs⟩)).front (Wk.box h 144 (cVt g ⟨L, p, c, xs⟩))).front (Wk.row 150 6 p8 ys.length c8 (encL ys))
            replace S := S.front (lgI b g L2)
            exact ⟨L2, _, S.uu, ⟨hm2, by rw [putR, hfit, ← hys]; exact hv2, by rw [putR, hfit, ← hys]; rfl⟩, S.sub _ _⟩
        · clear S; rintro L2 e uu a w ⟨hm2, hv2, he2⟩ S
          (iterate 2 (refine c_seq ?_))
          have h9' : ¬ 64 < (behP (rsP xs) (rsP l)).length := by have := of_decide_eq_false h9; omega
          refine c_region ?_; (iterate 2 (refine sq S ?_; clear S; intro a S)); refine wl_nil ?_; refine xtn ?_
          refine c_cond S (fun h17 => ?_) (fun h17 => ?_)
          · refine c_region ?_; (iterate 4 (refine sq S ?_; clear S; intro a S)); refine sw S ?_; clear S; intro a w S; refine wl_nil ?_; refine xtn ?_; refine c_seq ?_; refine c_region ?_; (iterate 2 (refine sq S ?_; clear S; intro a S)); refine wl_nil ?_; refine xtn ?_; refine c_ret ?_
            have h17' : (putR L.v (rsP xs) (rsP l)).2 = 0 := by rw [← he2]; simpa using h17
            have hv : putV L.v (rsP xs) (rsP l) = ((putR L.v (rsP xs) (rsP l)).1, behP (rsP xs) (rsP l), (putR L.v (rsP xs) (rsP l)).2) := by rw [putV, if_neg hbr, if_neg (by rw [hB]; simp), if_neg h9', if_pos h17']
            replace S := (((S.front (rwI ⟨L2, p8, c8, ys⟩)).front (lgI b g L2)).toBoth.front (Wk.box h 144 (cVt g ⟨L2, p8, c8, ys⟩))).toBoth
            have h1 := S.it (vtI h b g ⟨L2, p8, c8, ys⟩)
            have h2 := S.itNew (vtI h b g ⟨L2, p8, c8, ys⟩) rfl
            exact end1 S (fun _ => ⟨⟨L2, p8, c8, ys⟩, by rw [hv, he2], h1, h2, hm2, by rw [hv]; exact hv2, by rw [hv]; exact hys, hmem⟩)
          · refine c_skip ?_; refine xtn ?_; refine c_seq ?_; refine c_region ?_; (iterate 2 (refine sq S ?_; clear S; intro a S)); refine wl_nil ?_; refine xtn ?_; refine c_ret ?_
            have h17' : ¬ (putR L.v (rsP xs) (rsP l)).2 = 0 := by rw [← he2]; simpa using h17
            have hv : putV L.v (rsP xs) (rsP l) = ((putR L.v (rsP xs) (rsP l)).1, rsP xs, (putR L.v (rsP xs) (rsP l)).2) := by rw [putV, if_neg hbr, if_neg (by rw [hB]; simp), if_neg h9', if_neg h17']
            replace S := (((S.front (rwI ⟨L, p, c, xs⟩)).front (lgI b g L2)).toBoth.front (Wk.box h 144 (cVt g ⟨L2, p, c, xs⟩))).toBoth
            have h1 := S.it (vtI h b g ⟨L2, p, c, xs⟩)
            have h2 := S.itNew (vtI h b g ⟨L2, p, c, xs⟩) rfl
            exact end1 S (fun _ => ⟨⟨L2, p, c, xs⟩, by rw [hv, he2], h1, h2, hm2, by rw [hv]; exact hv2, by rw [hv], fun y hy => .inl hy⟩)
theorem vget_c (h g : Nat) (V : VT) (s : List UInt8) (w0 : World) (hxl : V.xs.length ≤ 1000) (f1 : Stable (fun _ => False) w0 (BoxF h 144 (cVt g V))) (f2 : Stable (fun _ => False) w0 (GlF V.p V.xs)) (hup : SortedP (rsP V.xs)) :
    Ret Tryz.prog 27 [.pointer (some ⟨h, 0, none⟩), str s] w0 (fun _ => False) fun v _ => ∃ i b, AtP V.xs s i b ∧ v = .tuple ⟨[vL (if b then (nthG V.xs i).term else zeroL), .bool b]⟩ := by
  obtain ⟨L, p, c, xs⟩ := V
  have hxl : xs.length ≤ 1000 := hxl
  refine enter Tryz.func27 rfl rfl (Wd.begin (fs := [BoxF h 144 (cVt g ⟨L, p, c, xs⟩), GlF p xs]) (by simp; exact ⟨f1, f2⟩)) (fun a S => ?_)
  simp only [Tryz.ntmps27, List.length_cons, List.length_nil, Nat.reduceAdd, Nat.reduceSub, List.replicate_succ, List.replicate_zero, List.cons_append, List.nil_append] at S
  refine c_seq ?_; refine c_region ?_
  refine sa S ?_; clear S; intro b4 a w S
  refine sq S ?_; clear S; intro a S; refine wl_nil ?_; refine xtn ?_; (iterate 2 (refine c_seq ?_)); refine c_region ?_; (iterate 2 (refine sq S ?_; clear S; intro a S)); refine wl_nil ?_; refine xtn ?_; refine c_condF S ?_; refine c_skip ?_; refine xtn ?_; refine c_seq ?_; refine c_region ?_; (iterate 5 (refine sq S ?_; clear S; intro a S))
  refine sr S (rsearch_c xs p xs.length c s _ rfl (by omega) (S.gl0 p) hup) ?_; clear S; rintro _ a w ⟨i, b, rfl, hat⟩ S
  (iterate 5 (refine sq S ?_; clear S; intro a S)); refine wl_nil ?_; refine xtn ?_; (iterate 2 (refine c_seq ?_)); refine c_region ?_; (iterate 2 (refine sq S ?_; clear S; intro a S)); refine wl_nil ?_; refine xtn ?_
  refine c_cond S (fun h4 => ?_) (fun h4 => ?_)
  · refine c_seq ?_; refine c_region ?_; refine sq S ?_; clear S; intro a S; refine sw S ?_; clear S; intro a w S; refine sq S ?_; clear S; intro a S; refine wl_nil ?_; refine xtn ?_; refine c_ret ?_; refine xtr ?_
    have hb : b = false := by simpa using h4
    exact end2 S (fun _ => ⟨i, b, hat, by rw [hb]; rfl⟩)
  · refine c_skip ?_; refine xtn ?_; refine c_seq ?_
    have hb : b = true := by simpa using h4
    have hK : KLt i xs.length := ⟨hat.lt hb⟩
    refine c_region ?_; (iterate 8 (refine sq S ?_; clear S; intro a S)); refine sw S ?_; clear S; intro a w S; refine sq S ?_; clear S; intro a S; refine wl_nil ?_; refine xtn ?_; refine c_ret ?_
    exact end2 S (fun _ => ⟨i, b, hat, by rw [hb]; rfl⟩)
theorem vrows_c (h g : Nat) (V : VT) (w0 : World) (hxl : V.xs.length ≤ 1000) (f1 : Stable (fun _ => False) w0 (BoxF h 144 (cVt g V))) (f2 : Stable (fun _ => False) w0 (GlF V.p V.xs)) :
    Ret Tryz.prog 26 [.pointer (some ⟨h, 0, none⟩)] w0 (fun _ => False) fun v w' => ∃ p' c', v = .slice p' V.xs.length c' ∧ w'.ownsRow 0 45 6 (.slice p' V.xs.length c') V.xs.length (encL V.xs) ∧ ∀ ad, p' = some ad → w0.heap.size ≤ ad.block := by
  obtain ⟨L, p, c, xs⟩ := V
  have hxl : xs.length ≤ 1000 := hxl
  refine enter Tryz.func26 rfl rfl (Wd.begin (fs := [BoxF h 144 (cVt g ⟨L, p, c, xs⟩), GlF p xs]) (by simp; exact ⟨f1, f2⟩)) (fun a S => ?_)
  simp only [Tryz.ntmps26, List.length_cons, List.length_nil, Nat.reduceAdd, Nat.reduceSub, List.replicate_succ, List.replicate_zero, List.cons_append, List.nil_append] at S
  refine c_seq ?_; refine c_region ?_; refine sq S ?_; clear S; intro a S; refine wl_nil ?_; refine xtn ?_; (iterate 2 (refine c_seq ?_)); refine c_region ?_; (iterate 2 (refine sq S ?_; clear S; intro a S)); refine wl_nil ?_; refine xtn ?_; refine c_condF S ?_; refine c_skip ?_; refine xtn ?_; refine c_seq ?_; refine c_region ?_; (iterate 4 (refine sq S ?_; clear S; intro a S))
  have hlt := foots_lt S
  refine sr S (all_vf p xs.length c _) ?_; clear S; rintro _ a w ⟨g1, rfl, n1, f1⟩ S
  replace S := S.add (Φ := BoxF g1 142 [.slice p xs.length c]) (BoxF.stable f1 (fun hm => by have := hlt _ hm; omega))
  refine srn S (collectR_c g1 xs p c (by omega) w ((S.mem.fact (BoxF g1 142 [.slice p xs.length c])).less fun _ _ h => h.elim) (S.gl0 p)) ?_; clear S; rintro _ a w ⟨p9, c9, rfl, hown9, hnew9⟩ hS -
  have S := hS hown9 hnew9
  clear hS
  refine sq S ?_; clear S; intro a S; refine wl_nil ?_; refine xtn ?_; refine c_ret ?_
  have hrow := S.row p9 xs.length
  have hnew := S.rowNew p9 xs.length
  exact end1 S (fun _ => ⟨p9, c9, rfl, hrow, fun ad h => (hnew ad h).elim (fun h => h.elim) id⟩)
theorem vformat_ok (b m n : Nat) (p : Option Addr) (c : Nat) (s : DS) (hm : mayF s n = true) (hl : s.loose.length ≤ 980000) (h0 : (fmtF n s).2 = 0) (w0 : World) (hd : (dkI b m p c s).holds w0) :
    Ret Tryz.prog 28 [.pointer (some ⟨b, 0, none⟩), .int .i64 (n : Int)] w0 (dkI b m p c s).foot fun v w' => ∃ h g L, v = .tuple ⟨[.pointer (some ⟨h, 0, none⟩), .int .i64 0]⟩ ∧ L.m = m ∧ L.v = fmtV n s ∧ (vtI h b g ⟨L, none, 0, []⟩).holds w' ∧ ∀ k, (vtI h b g ⟨L, none, 0, []⟩).foot k → (dkI b m p c s).foot k ∨ w0.heap.size ≤ k := by
  refine enter Tryz.func28 rfl rfl (Wd.itLent (x := dkI b m p c s) (fs := []) hd (by simp)) (fun a S => ?_)
  simp only [Tryz.ntmps28, List.length_cons, List.length_nil, Nat.reduceAdd, Nat.reduceSub, List.replicate_succ, List.replicate_zero, List.cons_append, List.nil_append] at S
  refine c_seq ?_; refine c_region ?_; (iterate 2 (refine sq S ?_; clear S; intro a S)); refine wl_nil ?_; refine xtn ?_; refine c_seq ?_; refine c_region ?_; (iterate 2 (refine sq S ?_; clear S; intro a S))
  refine sit (dkI b m p c s) S (format_v b m n p c s hm hl _ (S.it (dkI b m p c s))) rfl ?_; clear S; rintro _ a w (⟨h, -⟩ | ⟨-, g, L, rfl, hm2, hv2, hh2, hf2⟩) hS
  · exact absurd h0 h
  have S := hS (lgI b g L) hh2 hf2
  clear hS
  (iterate 5 (refine sq S ?_; clear S; intro a S)); refine wl_nil ?_; refine xtn ?_; (iterate 2 (refine c_seq ?_)); refine c_region ?_; (iterate 2 (refine sq S ?_; clear S; intro a S)); refine wl_nil ?_; refine xtn ?_; refine c_condF S ?_; refine c_skip ?_; refine xtn ?_; refine c_seq ?_; refine c_region ?_; (iterate 2 (refine sq S ?_; clear S; intro a S))
  refine sa S ?_; clear S; intro b19 a w S
  (iterate 2 (refine sq S ?_; clear S; intro a S)); refine wl_nil ?_; refine xtn ?_; refine c_ret ?_
  replace S := S.addNil 150 6
  rw [show Wk.row 150 6 none 0 0 [] = rwI ⟨L, none, 0, []⟩ from rfl] at S
  rw [show [Value.pointer (some ⟨g, 0, none⟩), Value.slice none 0 0] = cVt g ⟨L, none, 0, []⟩ from rfl] at S
  replace S := (((S.front (rwI ⟨L, none, 0, []⟩)).front (lgI b g L)).toBoth.front (Wk.box b19 144 (cVt g ⟨L, none, 0, []⟩))).toBoth
  have h1 := S.it (vtI b19 b g ⟨L, none, 0, []⟩)
  have h2 := S.itNew (vtI b19 b g ⟨L, none, 0, []⟩) rfl
  exact end2 S (fun _ => ⟨b19, g, L, rfl, hm2, hv2, h1, h2⟩)
theorem lfresh_c (w0 : World) : Ret Tryz.prog 17 [] w0 (fun _ => False) fun v w' => ∃ b m, v = .pointer (some ⟨b, 0, none⟩) ∧ (dkI b m none 0 (newD 602)).holds w' ∧ ∀ k, (dkI b m none 0 (newD 602)).foot k → w0.heap.size ≤ k := by
  refine enter Tryz.func17 rfl rfl (Wd.start w0) (fun a S => ?_)
  simp only [Tryz.ntmps17, List.length_cons, List.length_nil, Nat.reduceAdd, Nat.reduceSub, List.replicate_succ, List.replicate_zero, List.cons_append, List.nil_append] at S
  refine c_seq ?_; refine c_region ?_; refine sq S ?_; clear S; intro a S; refine wl_nil ?_; refine xtn ?_; refine c_seq ?_; refine c_region ?_
  refine snew S (dnew_dk 602 (by omega) _) ?_; clear S; rintro _ a w - ⟨b, m, rfl, hh, hnw⟩ hS -
  have S := hS (dkI b m none 0 (newD 602)) hh hnw
  clear hS
  (iterate 5 (refine sq S ?_; clear S; intro a S)); refine wl_nil ?_; refine xtn ?_; refine c_seq ?_; refine c_region ?_; (iterate 2 (refine sq S ?_; clear S; intro a S)); refine wl_nil ?_; refine xtn ?_; refine c_ret ?_
  have h1 := S.it (dkI b m none 0 (newD 602))
  have h2 := S.itNew (dkI b m none 0 (newD 602)) rfl
  exact end1 S (fun _ => ⟨b, m, rfl, h1, fun k hk => (h2 k hk).elim (fun h => h.elim) id⟩)
theorem lt_leaf (w : World) (k u n : Int) (s : List UInt8) : LtIn w (.mk k u n s none 0 []) := by
  rw [LtIn.iff]; exact ⟨Nat.le_refl _, Nat.zero_le _, trivial⟩
theorem row_one {xs : List LRow} {r : PRow} (h : rsP xs = [r]) : ∃ x, xs = [x] ∧ x.r = r := by
  match xs, h with
  | [x], h => exact ⟨x, rfl, by simpa [rsP] using h⟩
theorem at_one {x : LRow} {i : Nat} {b : Bool} (h : AtP [x] x.name i b) : i = 0 ∧ b = true := by
  obtain ⟨h1, h2, h3, h4⟩ := h
  have hi : i = 0 := by
    rcases Nat.eq_zero_or_pos i with h | h
    · exact h
    · have := h2 0 h
      rw [show (nthG [x] 0).name = x.name from rfl, bl_irrefl] at this; cases this
  subst hi
  exact ⟨rfl, by rw [h4]; simp [show (nthG [x] 0).name = x.name from rfl]⟩
def lw1 : List LRow := [⟨[97], textL [120]⟩, ⟨[98], secretL 1⟩]
def lw2 : List LRow := [⟨[97], zeroL⟩]
theorem lw2_p : rsP lw2 = wk2 := rfl
theorem vwakes_c (w0 : World) : Ret Tryz.prog 12 [] w0 (fun _ => False) fun v _ => v = .bool true := by
  have h0 := fmt_lv 300 (by omega)
  obtain ⟨b1, b2, b3⟩ := wk1_ok
  obtain ⟨c1, c2, c3⟩ := wk2_ok
  obtain ⟨e1, f1, g1⟩ := putV_off h0 [] wk1 b1 (by rw [b2]; decide) (by omega) (by rw [b3]; decide)
  rw [b2] at f1
  obtain ⟨e2, f2, g2⟩ := putV_off g1 wk1 wk2 c1 (by rw [c2]; decide) (by omega) (by rw [c3, endF_sum, List.map_append, List.sum_append, List.map_cons, List.map_nil, List.map_cons, List.map_nil, b3]; decide)
  rw [c2] at f2
  obtain ⟨V0, hV0⟩ : ∃ V0, V0 = fmtV 300 (newD ((2 * 300 + 2 : Nat) : Int)) := ⟨_, rfl⟩
  rw [← hV0] at h0 e1 f1 g1 e2 f2 g2
  refine enter Tryz.func12 rfl rfl (Wd.start w0) (fun a S => ?_)
  simp only [Tryz.ntmps12, List.length_cons, List.length_nil, Nat.reduceAdd, Nat.reduceSub, List.replicate_succ, List.replicate_zero, List.cons_append, List.nil_append] at S
  refine c_seq ?_; refine c_region ?_; refine sq S ?_; clear S; intro a S; refine wl_nil ?_; refine xtn ?_; refine c_seq ?_; refine c_region ?_
  refine snew S (lfresh_c _) ?_; clear S; rintro _ a w - ⟨b, m, rfl, hh, hnw⟩ hS -
  have S := hS (dkI b m none 0 (newD 602)) hh hnw
  clear hS
  refine sit (dkI b m none 0 (newD 602)) S (vformat_ok b m 300 none 0 (newD 602) (by simp [mayF, newD]) (by simp [newD]) (format_live 300 (by omega)).1 _ (S.it (dkI b m none 0 (newD 602)))) rfl ?_; clear S; rintro _ a w ⟨h, g, L, rfl, hm2, hv2, hh2, hf2⟩ hS
  have S := hS (vtI h b g ⟨L, none, 0, []⟩) hh2 hf2
  clear hS
  (iterate 5 (refine sq S ?_; clear S; intro a S)); refine wl_nil ?_; refine xtn ?_; (iterate 2 (refine c_seq ?_)); refine c_region ?_; (iterate 2 (refine sq S ?_; clear S; intro a S)); refine wl_nil ?_; refine xtn ?_; refine c_condF S ?_; refine c_skip ?_; refine xtn ?_; refine c_seq ?_; refine c_region ?_; refine sq S ?_; clear S; intro a S; refine sc S ?_; clear S; intro a w S; refine sq S ?_; clear S; intro a S
  refine sc S ?_; clear S; intro a w S; refine sq S ?_; clear S; intro a S
  refine sn S ?_; clear S; intro b19 a w S
  replace hv2 : L.v = V0 := hv2.trans hV0.symm
  replace S := S.boxRow b19 6 2 rfl (by simp [maxLen])
  rw [show ([.string ⟨#[97]⟩, .int .i64 (textL [120]).kind, .int .i64 (textL [120]).user, .int .i64 (textL [120]).num, str (textL [120]).text, .slice (textL [120]).p (textL [120]).kids.length (textL [120]).cap, .string ⟨#[98]⟩, .int .i64 (secretL 1).kind, .int .i64 (secretL 1).user, .int .i64 (secretL 1).num, str (secretL 1).text, .slice (secretL 1).p (secretL 1).kids.length (secretL 1).cap] : List Value) = encL lw1 from rfl] at S
  replace S := S.rowToGl (some ⟨b19, 0, none⟩) lw1 (e := 45) (sz := 6) (n := 2) (c := 2) (fun w' _ x hx => by
    simp only [lw1, List.mem_cons, List.not_mem_nil, or_false] at hx
    rcases hx with rfl | rfl
    · exact lt_leaf w' 1 0 0 [120]
    · exact lt_leaf w' 3 1 0 [])
  refine sit (vtI h b g ⟨L, none, 0, []⟩) S (vput_c h b g ⟨L, none, 0, []⟩ lw1 (some ⟨b19, 0, none⟩) 2 0 (by show L.v.Wf 0; rw [hv2]; exact h0.ok.wf) (by omega) keptP_nil (by simp) (by decide) (by decide) (by decide) w (S.it (vtI h b g ⟨L, none, 0, []⟩)) (fun _ _ x hx => by cases hx) (S.lend (vtI h b g ⟨L, none, 0, []⟩) (S.mem.fact (GlF (some ⟨b19, 0, none⟩) lw1)))) rfl ?_; clear S; rintro _ a w ⟨V1, rfl, hh3, hf3, hm3, hv3, hx3, hmem3⟩ hS
  have S := hS (vtI h b g V1) hh3 hf3
  clear hS
  rw [show (putV (VT.L ⟨L, none, 0, []⟩).v (rsP (VT.xs ⟨L, none, 0, []⟩)) (rsP lw1)).2.2 = 0 from by show (putV L.v [] wk1).2.2 = 0; rw [hv2]; exact e1] at S
  replace hx3 : rsP V1.xs = wk1 := by rw [hx3]; show (putV L.v [] wk1).2.1 = wk1; rw [hv2]; exact f1
  replace hv3 : V1.L.v = (putV V0 [] wk1).1 := by rw [hv3]; show (putV L.v [] wk1).1 = _; rw [hv2]
  have hk3 : KeptP (rsP V1.xs) := by rw [hx3, ← b2]; exact keptP_beh keptP_nil b1
  have hl3 : V1.xs.length = 2 := by rw [← rsP_len, hx3]; rfl
  replace S := S.add (Φ := AllI V1.xs) (fun w' hw' y hy => (hmem3 y hy).elim (fun h => by cases h) (fun h => ((S.mem.fact (GlF (some ⟨b19, 0, none⟩) lw1)) w' hw').2 y h))
  refine sq S ?_; clear S; intro a S; refine wl_nil ?_; refine xtn ?_; refine c_seq ?_; refine c_region ?_; (iterate 2 (refine sq S ?_; clear S; intro a S))
  refine sn S ?_; clear S; intro b23 a w S
  replace S := S.boxRow b23 6 1 rfl (by simp [maxLen])
  rw [show ([.string ⟨#[97]⟩, .int .i64 0, .int .i64 0, .int .i64 0, .string ⟨#[]⟩, .slice none 0 0] : List Value) = encL lw2 from rfl] at S
  replace S := S.rowToGl (some ⟨b23, 0, none⟩) lw2 (e := 45) (sz := 6) (n := 1) (c := 1) (fun w' _ x hx => by
    simp only [lw2, List.mem_cons, List.not_mem_nil, or_false] at hx
    rcases hx with rfl
    exact lt_leaf w' 0 0 0 [])
  refine sit (vtI h b g V1) S (vput_c h b g V1 lw2 (some ⟨b23, 0, none⟩) 1 0 (by rw [hv3]; exact g1.ok.wf) (by omega) hk3 (by omega) (by decide) (by decide) (by decide) w (S.it (vtI h b g V1)) (S.lend (vtI h b g V1) (S.mem.fact (AllI V1.xs))) (S.lend (vtI h b g V1) (S.mem.fact (GlF (some ⟨b23, 0, none⟩) lw2)))) rfl ?_; clear S; rintro _ a w ⟨V2, rfl, hh4, hf4, hm4, hv4, hx4, hmem4⟩ hS
  have S := hS (vtI h b g V2) hh4 hf4
  clear hS
  rw [hv3, hx3, lw2_p] at hv4 hx4
  rw [show (putV V1.L.v (rsP V1.xs) (rsP lw2)).2.2 = 0 from by rw [hv3, hx3, lw2_p]; exact e2] at S
  replace hx4 : rsP V2.xs = [⟨[98], .mk 3 1 0 [] []⟩] := by rw [hx4]; exact f2
  obtain ⟨x, hxx, hxr⟩ := row_one hx4
  have hxn : x.name = [98] := congrArg PRow.name hxr
  have hxt : x.term.t = secretT 1 := congrArg PRow.term hxr
  have hl4 : V2.xs.length = 1 := by rw [hxx]; rfl
  have hup4 : SortedP (rsP V2.xs) := by rw [hx4]; exact List.pairwise_singleton _ _
  replace S := S.add (Φ := AllI V2.xs) (fun w' hw' y hy => (hmem4 y hy).elim (fun h => S.wd.facts (AllI V1.xs) (by simp) w' hw' y h) (fun h => ((S.mem.fact (GlF (some ⟨b23, 0, none⟩) lw2)) w' hw').2 y h))
  refine sq S ?_; clear S; intro a S; refine wl_nil ?_; refine xtn ?_; refine c_seq ?_; refine c_region ?_; refine sq S ?_; clear S; intro a S
  replace S := S.ofBoth
  replace S := S.front (both (lgI b g V2.L) (rwI V2))
  replace S := S.ofBoth
  refine sr S (vget_c h g V2 [98] _ (by omega) ((BoxF.stable (S.box h) (fun h => h))) (gl_own (S.row V2.p V2.xs.length) ((S.mem.fact (AllI V2.xs)).less fun _ _ h => h.elim) (fun _ _ h => h)) hup4) ?_; clear S; rintro _ a w ⟨i, bb, hat, rfl⟩ S
  obtain ⟨rfl, rfl⟩ : i = 0 ∧ bb = true := by rw [hxx, ← hxn] at hat; exact at_one hat
  rw [show (if true then (nthG V2.xs 0).term else zeroL) = x.term from by rw [hxx]; rfl] at S
  (iterate 3 (refine sq S ?_; clear S; intro a S))
  refine sa S ?_; clear S; intro b5 a w S
  refine sw S ?_; clear S; intro a w S; refine sq S ?_; clear S; intro a S; refine wl_nil ?_; refine xtn ?_; refine c_seq ?_
  have hxf : Stable (foots [Wk.box b5 43 x.term.cells, lgI b g V2.L, rwI V2, Wk.box h 144 (cVt g V2)]) w (LtF x.term) := (S.mem.fact (AllI V2.xs)).imp fun _ h => h x (by rw [hxx]; exact .head _)
  replace S := S.add (Φ := LtF x.term) hxf
  refine c_drawD [(0, true), (1, true), (2, true), (3, true), (4, true), (5, true), (6, true), (7, true), (8, false), (9, true), (10, true), (11, true), (12, true), (13, true), (14, true), (15, true), (16, true), (17, false), (18, false), (19, true), (20, true)] [] S ?_; clear S; intro w S
  (iterate 2 (refine dq S ?_; clear S; intro a S))
  rw [show decide ((0 : Int) = 0) = true from rfl] at S
  refine dq S ?_; clear S; intro a S; (iterate 2 (refine dqG S ?_; clear S; intro a S))
  rw [show decide ((0 : Int) = 0) = true from rfl] at S
  (iterate 2 (refine dq S ?_; clear S; intro a S)); refine dqG S ?_; clear S; intro a S; refine dl ?_; refine gT S ?_
  refine srn S (vrows_c h g V2 _ (by omega) (BoxF.stable (S.box h) (fun h => h)) (gl_own (S.row V2.p V2.xs.length) ((S.mem.fact (AllI V2.xs)).less fun _ _ h => h.elim) (fun _ _ h => h))) ?_; clear S; rintro _ a w ⟨p9, c9, rfl, hown9, hnew9⟩ hS -
  have S := hS hown9 hnew9
  clear hS
  rw [hl4] at S
  refine de S ?_; (iterate 2 (refine dqG S ?_; clear S; intro a S))
  rw [show decide (((1 : Nat) : Int) = 1) = true from rfl] at S
  (iterate 2 (refine dq S ?_; clear S; intro a S)); refine dqG S ?_; clear S; intro a S; (iterate 2 (refine dq S ?_; clear S; intro a S)); refine dqG S ?_; clear S; intro a S; refine dl ?_; refine gC S ?_; clear S; intro a w S; refine de S ?_; refine dl ?_; refine gC S ?_; clear S; intro a w S; refine de S ?_; (iterate 2 (refine dq S ?_; clear S; intro a S)); refine dn ?_; refine xtn ?_; refine c_ret ?_
  refine end1 S (fun _ => ?_)
  rw [hxt]; rfl
end Go.Proofs.YtdakncgafdnjfaaGreat
namespace Go.Wk
open Go Go.Deep Go.ChangeShapes Go.WideShapes Go.ChangeAt Go.RowKit
class TroZ (P : Program) (T : TypeId) (α : Type) [Lay α] (Z : outParam (α → Prop)) : Prop where
  of : ∀ {H : Type} (enc : TypeId × Value → H) (w : World) (base : Nat) (spare : Nat → Bool) (held : Bool) (fuel : Nat) (cs : List Value) (x : DataW H × List MemPlace), DataW.trod enc P w base spare held fuel T cs = some x → ∃ a : α, cs = Enc.cells a ∧ Lay.inn w a ∧ ((∀ n ∈ x.1.weights P T, n ≤ reachBytes) → Z a)
  size : P.cellsOf T = Enc.sz α
theorem weights_mem_all {H : Type} {P : Program} {e : TypeId} : ∀ {ds : List (DataW H)} {d : DataW H}, d ∈ ds → ∀ n ∈ d.weights P e, n ∈ DataW.weightsAll P e ds
  | d0 :: ds, d, hd, n, hn => by
    simp only [DataW.weightsAll, List.mem_append]
    rcases List.mem_cons.1 hd with rfl | hd
    · exact .inl hn
    · exact .inr (weights_mem_all hd n hn)
open Go
def kvI (x : Int × Value) : Value × Value := (.int .i64 x.1, x.2)
def mpin (b r : Nat) (kv done : List (Int × Value)) : Item where
  foot := fun k => k = b ∨ k = r
  holds := fun w => ∃ (es : Array MapEntry) (clock : Nat) (ds : List MapEntry), w.heap[b]? = some (.map es clock) ∧ es.toList.map enKV = kv.map kvI ∧ (∀ e ∈ es.toList, e.born < clock) ∧ (es.toList.map (·.born)).Nodup ∧
    w.heap[r]? = some (.mapIter (some b) clock (ds.map (·.born)).toArray clock) ∧ (∀ e ∈ ds, e ∈ es.toList) ∧ (ds.map (·.born)).Nodup ∧ ds.map enKV = done.map kvI
class HasMpin (bs : List Item) (r : Nat) (b : outParam Nat) (kv done : outParam (List (Int × Value))) : Prop where mem : mpin b r kv done ∈ bs
class HasMpinnB (bs : List Item) (b : Nat) (kv : outParam (List (Int × Value))) : Prop where mem : ∃ r done, mpin b r kv done ∈ bs
section
variable {P : Program} {r0 : Option Nat} {ops : Array Oper} {Q : Exit → Act → World → Prop} {w0 : World} {M0 : Nat → Prop} {ds : List Deferred} {a : Act} {w : World} {l : List Value} {bs : List Item} {fs : List (World → Prop)}
  {d : Option Nat} {op : Op} {ty : TypeId} {pos : String} {af : Array Edge} {rest : List Oper} {t kt et : TypeId} {x : Operand} {b : Nat} {kv : List (Int × Value)}
end
section
variable {P : Program} {ops : Array Oper} {C : World → Prop} {X : XP}
def ACXL (last : Nat) (P : Program) (ops : Array Oper) (X : XP) (C : World → Prop) (R : Act → World → Prop) : Nat → Array Bool → Act → World → Prop
  | 0, listed, a, w => Region.ready .any ops listed = [] ∧ R a w
  | fuel + 1, listed, a, w =>
    (Region.ready .any ops listed = [] → R a w) ∧
    ∀ i ∈ Region.ready .any ops listed, WNX P ops X i (fun a' w' => (i ≠ last → C w') ∧ ACXL last P ops X C R fuel (listed.setIfInBounds i true) a' w') a w
variable {R : Act → World → Prop}
theorem acxl_first {last i : Nat} {oi : Oper} {v : Value} (hi : ops[i]? = some oi) (hoff : X.off oi) (hsel : ∀ (j : Nat) (o : Oper) cs b, ops[j]? = some o → o.op ≠ .select cs b) :
    (i ≠ last ∧ ∀ o, ops[last]? = some o → ∃ e ∈ o.after, Region.binds .any e = true ∧ e.on = i) → ∀ (fuel : Nat) (listed : Array Bool) (a : Act) (w : World),
      (∀ j oj, ops[j]? = some oj → j ≠ i → listed.getD j true = false → (∀ e ∈ oj.after, Region.binds .any e = true → e.on ≠ i) → oi.apart ops oj = true) →
      i ∈ Region.ready .any ops listed → YieldsC P ops C oi v a → C w →
      ACXL last P ops X C R fuel (listed.setIfInBounds i true) (a.put oi.dst v) w → ACXL last P ops X C R (fuel + 1) listed a w := by
  intro hlast fuel
  induction fuel with
  | zero =>
    intro listed a w _ hr hy hS H
    refine ⟨fun h => (by rw [h] at hr; cases hr), fun j hj => ?_⟩
    by_cases hji : j = i
    · subst hji; exact hy.wnx hi hS ⟨fun _ => hS, H⟩
    · have := ready_mono hj hji
      rw [H.1] at this
      cases this
  | succ fuel ih =>
    intro listed a w hfree hr hy hS H
    refine ⟨fun h => (by rw [h] at hr; cases hr), fun j hj => ?_⟩
    by_cases hji : j = i
    · subst hji; exact hy.wnx hi hS ⟨fun _ => hS, H⟩
    · have h1 := H.2 j (ready_mono hj hji)
      obtain ⟨hjun, oj, hoj, hall⟩ := mem_ready.1 hj
      have hnot : ∀ e ∈ oj.after, Region.binds .any e = true → e.on ≠ i := fun e he hb heq => by
        have h1 := hall e he hb
        have h0 := (mem_ready.1 hr).1
        rw [heq] at h1
        rcases Nat.lt_or_ge i listed.size with h' | h'
        · simp [h'] at h0 h1; rw [h0] at h1; cases h1
        · simp [Array.getElem?_eq_none h'] at h1
      have hjl : j ≠ last := fun e => by
        obtain ⟨e', he', hb', ho'⟩ := hlast.2 oj (e ▸ hoj)
        exact hnot e' he' hb' ho'
      have h2 := wnx_put hoj (hfree j oj hoj hji hjun hnot) hoff (fun cs b => hsel i oi cs b hi) (fun cs b => hsel j oj cs b hoj) hy h1
      have hfree' : ∀ k ok, ops[k]? = some ok → k ≠ i → (listed.setIfInBounds j true).getD k true = false →
          (∀ e ∈ ok.after, Region.binds .any e = true → e.on ≠ i) → oi.apart ops ok = true := fun k ok hk hki hun hno => by
        refine hfree k ok hk hki ?_ hno
        by_cases hjk : j = k
        · subst hjk; exact hjun
        · rw [getD_set_ne true hjk] at hun; exact hun
      refine wpOpIn_mono (fun a' w' h3 => ⟨h3.2.1, ih (listed.setIfInBounds j true) a' w' hfree' (ready_mono hr (Ne.symm hji)) h3.1 (h3.2.1 hjl) ?_⟩) h2
      rw [Array.setIfInBounds_comm _ _ hji]
      exact h3.2.2
variable {r : Option Nat} {Q : Exit → Act → World → Prop} {w0 : World} {M0 : Nat → Prop} {ds : List Deferred} {a : Act} {w : World} {l l' : List Value} {bs bs' bs0 : List Item} {fs fs0 : List (World → Prop)}
  {d : Option Nat} {op : Op} {ty : TypeId} {pos : String} {af : Array Edge} {rest : List Oper} {v v' G : Value} {j g : Nat} {pol : Bool} {cs : List Bool} {n last : Nat} {listed : Array Bool}
def AQXL (last : Nat) (P : Program) (ops : Array Oper) (X : XP) (C : World → Prop) (R : Act → World → Prop) (ord : List (Nat × Bool)) (a : Act) (w : World) : Prop :=
  ∀ listed, Region.noSelect ops = true → X.offB ops = true → flowFromL last ops ord listed = true → ACXL last P ops X C R ord.length listed a w
variable {ord : List (Nat × Bool)} {i : Nat}
theorem dqXL (S : St w0 M0 ds a w l bs fs) [hb : SubL bs0 bs] [hf : SubL fs0 fs] [ho : OpAt ops i ⟨d, op, ty, pos, af, none⟩] [hq : OpQ P op ty ⟨[], l⟩ bs0 fs0 v] [hp : PutO l d v l']
    (K : ∀ a, St w0 M0 ds a w l' bs fs → AQXL last P ops X (fun w => Wd w0 M0 w bs0 fs0) R ord a w) :
    AQXL last P ops X (fun w => Wd w0 M0 w bs0 fs0) R ((i, true) :: ord) a w := by
  intro listed hs hx hflow
  simp only [flowFromL, Bool.and_eq_true] at hflow
  refine acxl_first ho.eq (XP.offB_spec hx ho.eq) (Region.noSelect_spec hs) (feeds_spec hflow.1.2) _ listed a w (Region.free_spec ho.eq hflow.1.1.2) (by simpa using hflow.1.1.1) (v := v) (.inl ⟨rfl, fun w' hw' => ?_⟩) (S.wd.sub hb.sub hf.sub) (K _ S.put _ hs hx hflow.2)
  rw [execOp_eq]
  exact hq.run a.eval w' S.fr hw'.mem
theorem dlXL {o : Oper} {C : World → Prop} [ho : OpAt ops i o] (h : WL P none ops (fun e a' w' => (e = .normal ∧ (i ≠ last → C w') ∧ AQXL last P ops X C R ord a' w') ∨ X.at e a' w') [o] a w) : AQXL last P ops X C R ((i, false) :: ord) a w := by
  intro listed hs hx hflow
  simp only [flowFromL, Bool.and_eq_true] at hflow
  have hr : Region.ready .any ops listed = [i] := by
    have := hflow.1
    split at this
    · rename_i k hk; rw [hk, Nat.eq_of_beq_eq_true this]
    · cases this
  refine ⟨fun h0 => (by rw [h0] at hr; cases hr), fun k hk => ?_⟩
  rw [hr] at hk
  obtain rfl : k = i := by simpa using hk
  have nor : ∀ {p : Prop} {a' : Act} {w' : World}, ((p ∧ (k ≠ last → C w') ∧ AQXL last P ops X C R ord a' w') ∨ X.at .normal a' w') → (k ≠ last → C w') ∧ ACXL last P ops X C R ord.length (listed.setIfInBounds k true) a' w' := by
    rintro p a' w' (⟨-, h1, h2⟩ | h)
    · exact ⟨h1, h2 _ hs hx hflow.2⟩
    · exact h.elim
  have pan : ∀ {c : List PanicEntry} {a' : Act} {w' : World}, ((Exit.panic c = Exit.normal ∧ (k ≠ last → C w') ∧ AQXL last P ops X C R ord a' w') ∨ X.at (.panic c) a' w') → X.at (.panic c) a' w' := by
    rintro c a' w' (⟨h, -⟩ | h)
    · cases h
    · exact h
  unfold WNX wpOpIn
  simp only [ho.eq]
  simp only [WL, wpListIn] at h
  split
  · rename_i hw
    rw [if_pos hw] at h
    refine ⟨fun _ _ => trivial, ?_⟩
    have h := h.2
    generalize (o.semAt (FW none).round a.eval).run P w = q at *
    cases q with
    | ok x w' =>
      cases x <;> simp only [Oper.uponIn] at h ⊢
      case value u => exact nor h
      case skip => exact nor h
      case defer d => exact nor h
      case enter f args =>
        refine ⟨h.1, CallsIn.mono h.2 fun e w'' he => ?_⟩
        cases e with
        | returned u => simp only [true_and] at he; exact nor (p := True) (by simpa using he)
        | panicked c => exact pan he
        | outgrown => obtain ⟨_, _, he⟩ := he; rcases he with ⟨he, _⟩ | he <;> first | cases he | exact he.elim
      case row row args => exact ⟨h.1, RowsIn.mono h.2 fun u w'' he => nor he⟩
      case round l f tmps assign body =>
        refine ⟨h.1, RoundIn.mono h.2 fun e w'' he => ?_⟩
        cases e with
        | returned u => simp only [true_and] at he; exact nor (p := True) (by simpa using he)
        | panicked c => exact pan he
        | outgrown => obtain ⟨_, _, he⟩ := he; rcases he with ⟨he, _⟩ | he <;> first | cases he | exact he.elim
    | halt x w' =>
      cases x <;> simp only [Oper.uponIn] at h ⊢
      case panic u => exact pan h
  · rename_i hw
    rw [if_neg hw] at h
    exact ⟨fun _ _ => trivial, nor h.2⟩
theorem deXL [hb : SubL bs0 bs] [hf : SubL fs0 fs] (S : St w0 M0 ds a w l bs fs) (h : AQXL last P ops X (fun w => Wd w0 M0 w bs0 fs0) R ord a w) : WL P none ops (fun e a' w' => (e = .normal ∧ (i ≠ last → Wd w0 M0 w' bs0 fs0) ∧ AQXL last P ops X (fun w => Wd w0 M0 w bs0 fs0) R ord a' w') ∨ X.at e a' w') [] a w :=
  wl_nil (.inl ⟨rfl, fun _ => S.wd.sub hb.sub hf.sub, h⟩)
theorem dzXL {C : World → Prop} (h : R a w) (hr : ∀ listed, Region.noSelect ops = true → flowFromL last ops [] listed = true → Region.ready .any ops listed = [] := by intro listed _ h; simpa [flowFromL] using h) : WL P none ops (fun e a' w' => (e = .normal ∧ (last ≠ last → C w') ∧ AQXL last P ops X C R [] a' w') ∨ X.at e a' w') [] a w :=
  wl_nil (.inl ⟨rfl, fun h => absurd rfl h, fun listed hs _ hf => ⟨hr listed hs hf, h⟩⟩)
theorem any_of_acxl (hQ : ∀ ch a w, X.at (.panic ch) a w → Q (.panic ch) a w) (hd : ∀ (i : Nat) o, ops[i]? = some o → isDefer o.op = false) : ∀ (fuel : Nat) (listed : Array Bool) (a : Act) (w : World), ACXL last P ops X C (fun a w => Q .normal a w) fuel listed a w → wpAnyIn (FW r) 0 P .any ops Q fuel listed a w
  | 0, _, _, _, h => h
  | fuel + 1, _, _, _, h => ⟨h.1, fun i hi => wnx_round hQ hd (wpOpIn_mono (fun a' w' h' => any_of_acxl hQ hd fuel _ a' w' h'.2) (h.2 i hi))⟩
theorem c_drawXL {id : Nat} {lo : List Oper} (last : Nat) (ord : List (Nat × Bool)) (bs0 : List Item) (X : XP) (S : St w0 M0 ds a w l bs fs) (hQ : ∀ ch a w, X.at (.panic ch) a w → Q (.panic ch) a w)
    (h : ∀ w, St w0 M0 ds a w l bs fs → AQXL last P lo.toArray X (fun w => Wd w0 M0 w bs0 fs) (fun a w => Q .normal a w) ord a w)
    (hm : P.follows .mixedOrders = true := by kernel_rfl) (hx : X.offB lo.toArray = true := by kernel_rfl) (hd : ((lo.all fun o => !isDefer o.op) && (Nat.beq ord.length lo.length && (Region.noSelect lo.toArray && flowFromL last lo.toArray ord (Array.replicate lo.length false)))) = true := by kernel_rfl) : Wp P r (.region id lo.toArray true) Q a w := by
  simp only [Bool.and_eq_true] at hd
  refine wpIn_region_any hm (any_of_acxl (last := last) (C := fun w => Wd w0 M0 w bs0 fs) hQ (fun i o ho => ?_) _ _ _ _ ?_)
  · have := List.all_eq_true.1 hd.1 o (by
      rw [List.getElem?_toArray] at ho
      exact List.mem_of_getElem? ho)
    simpa using this
  · have := h { w with drawn := w.drawn + 1 } ⟨S.slots, S.defers, S.wd.step (Agree.drawn _ w _)⟩ _ hd.2.2.1 hx hd.2.2.2
    rw [Nat.eq_of_beq_eq_true hd.2.1] at this
    simpa using this
end
section
variable {P : Program} {r : Option Nat} {ops : Array Oper} {Q : Exit → Act → World → Prop} {w0 : World} {M0 : Nat → Prop} {ds : List Deferred} {a : Act} {w : World} {l : List Value} {bs bs' : List Item} {fs : List (World → Prop)}
  {d : Option Nat} {ty : TypeId} {pos : String} {af : Array Edge} {rest : List Oper} {f : Nat} {x : Operand} {ys : List Operand} {args : List Value} {ts : Array TypeId}
theorem xtp {next : Act → World → Prop} {ch : List PanicEntry} (h : Q (.panic ch) a w) : Exit.then next Q (.panic ch) a w := h
theorem xbp {id : Nat} {ch : List PanicEntry} (h : Q (.panic ch) a w) : Exit.inBlock id Q (.panic ch) a w := h
abbrev noI : Item := ext fun _ => False
theorem sitMP {l' : Value → List Value} (it : Item) [EntF P f] [CallTo ⟨[], l⟩ x ys f args] [hp : ∀ v, PutO l d v (l' v)] (S : St w0 M0 ds a w l bs fs) {R : Value → World → Prop} {X : List PanicEntry → World → Prop} (hc : RetP P f args w it.foot R X) (ho : it.own = true)
    (Kp : ∀ ch w', X ch w' → (∀ {bs' : List Item} [ReplI bs it noI bs'], St w0 M0 ds a w' l bs' fs) → Q (.panic ch) a w')
    (K : ∀ v a w', R v w' → (∀ (y : Item) (fs2 : List (World → Prop)) {fs3 : List (World → Prop)} {bs' : List Item} [AppL fs2 fs fs3] [ReplI bs it y bs'] [ItOk y], y.holds w' → (∀ k, y.foot k → it.foot k ∨ w.heap.size ≤ k) → (∀ Φ ∈ fs2, Stable (fun k => y.foot k ∨ restOf bs it k) w' Φ) → St w0 M0 ds a w' (l' v) bs' fs3) → WL P r ops Q rest a w') :
    WL P r ops Q (⟨d, .call { callee := .value x, args := ys.toArray, argTypes := ts }, ty, pos, af, none⟩ :: rest) a w := by
  have hap := S.wd.apart
  refine cv_anyP S hc ?_
  rintro e w' (⟨v, rfl, ha, hR⟩ | ⟨ch, rfl, ha, hX⟩)
  · have := hp v
    have S' := S.put (d := d) (v := v)
    refine .inl ⟨v, rfl, K v _ w' hR fun y fs2 fs3 bs' happ hr oy hy hf hfs => ?_⟩
    have hS : St w0 M0 ds (a.put d v) w' (l' v) bs' fs := ⟨S'.slots, S'.defers, by
      obtain ⟨pre, post, q1, q2⟩ := hr.ex
      have hwd := S'.wd
      rw [q1] at hwd
      rw [q2]
      exact hwd.swap ho ha hy hf (oy.lt w' hy) oy.loc⟩
    rw [← happ.eq]
    refine hS.addAll fs2 fun Φ hΦ => (hfs Φ hΦ).less fun k _ hk => ?_
    obtain ⟨pre, post, rfl, rfl⟩ := hr.ex
    obtain ⟨z, hz, hk⟩ := hk
    have hp := List.pairwise_append.1 hap
    rcases List.mem_append.1 hz with hz | hz
    · exact .inr ⟨⟨z, by simp [hz], hk⟩, hp.2.2 z hz it (by simp) k hk⟩
    · rcases List.mem_cons.1 hz with rfl | hz
      · exact .inl hk
      · exact .inr ⟨⟨z, by simp [hz], hk⟩, fun hx => (List.pairwise_cons.1 hp.2.1).1 z hz k hx hk⟩
  · refine .inr ⟨ch, rfl, Kp ch w' hX fun {bs'} hr => ⟨S.slots, S.defers, ?_⟩⟩
    obtain ⟨pre, post, q1, q2⟩ := hr.ex
    have hwd := S.wd
    rw [q1] at hwd
    rw [q2]
    exact hwd.swap ho ha trivial (fun _ h => h.elim) (fun _ h => h.elim) (fun _ _ _ _ => trivial)
end
end Go.Wk
namespace Go.Proofs.YtdakncgafdnjfaaGreat
open Go Go.Wk
set_option synthInstance.maxSize 100000
set_option synthInstance.maxHeartbeats 400000
set_option maxRecDepth 100000
instance : StT Tryz.prog 247 := ⟨⟨_, Tryz.underlying247⟩⟩
instance : IfT Tryz.prog 20 := ⟨by kernel_rfl⟩
abbrev wrongE (e : Int) : Value := .iface 247 (.agg ⟨[.int .i64 e]⟩)
abbrev tmI (h rd : Nat) (left : Int) : Wk.Item := Wk.box h 245 [.pointer (some ⟨rd, 0, none⟩), .int .i64 left]
abbrev rtI (h rd : Nat) (left : Int) (r : RS) : Wk.Item := both (tmI h rd left) (rdI rd r)
theorem needR_c (h rd : Nat) (left : Int) (r : RS) (b : Bool) (w0 : World) (f1 : Stable (fun _ => False) w0 (BoxF h 245 [.pointer (some ⟨rd, 0, none⟩), .int .i64 left])) (f2 : Stable (fun _ => False) w0 (BoxF rd 238 (cRS r))) :
    RetP Tryz.prog 234 [.pointer (some ⟨h, 0, none⟩), .bool b] w0 (fun _ => False) (fun _ _ => r.why = 0 ∧ b = true) (fun ch _ => ∃ e, ch = pch (wrongE e) ∧ ((r.why ≠ 0 ∧ e = 7) ∨ (r.why = 0 ∧ b = false ∧ e = 150))) := by
  refine enter Tryz.func234 rfl rfl (Wd.begin (fs := [BoxF h 245 [.pointer (some ⟨rd, 0, none⟩), .int .i64 left], BoxF rd 238 (cRS r)]) (by simp; exact ⟨f1, f2⟩)) (fun a S => ?_)
  simp only [Tryz.ntmps234, List.length_cons, List.length_nil, Nat.reduceAdd, Nat.reduceSub, List.replicate_succ, List.replicate_zero, List.cons_append, List.nil_append] at S
  refine c_block ?_; refine c_seq ?_; refine c_region ?_; (iterate 4 (refine sq S ?_; clear S; intro a S))
  refine sr S (errR_c rd r _ (S.mem.fact0 (BoxF rd 238 (cRS r)))) ?_; clear S; rintro _ a w rfl S
  (iterate 2 (refine sq S ?_; clear S; intro a S)); refine wl_nil ?_; refine xtn ?_
  refine c_cond S (fun h0 => ?_) (fun h0 => ?_)
  · refine c_region ?_; (iterate 2 (refine sq S ?_; clear S; intro a S))
    refine sPan S (fun S => ?_)
    refine xbp ?_; refine endX S ?_
    exact ⟨7, rfl, .inl ⟨by simpa using h0, rfl⟩⟩
  · refine c_seq ?_; refine c_region ?_; (iterate 3 (refine sq S ?_; clear S; intro a S)); refine wl_nil ?_; refine xtn ?_
    refine c_cond S (fun h2 => ?_) (fun h2 => ?_)
    · refine c_region ?_; (iterate 2 (refine sq S ?_; clear S; intro a S))
      refine sPan S (fun S => ?_)
      refine xbp ?_; refine endX S ?_
      exact ⟨150, rfl, .inr ⟨by simpa using h0, by simpa using h2, rfl⟩⟩
    · refine c_skip ?_; refine xbn ?_
      refine endP (end0 S (fun _ => ?_))
      exact ⟨by simpa using h0, by simpa using h2⟩
structure SubR (r r' : RS) : Prop where
  gl : r.bs.length ≤ r.c → ∀ w, GlF r.p r.bs w → GlF r'.p r'.bs w
  len : r'.bs.length ≤ r.bs.length
  cap : r.bs.length ≤ r.c → r'.bs.length ≤ r'.c
theorem SubR.refl (r : RS) : SubR r r := ⟨fun _ _ h => h, Nat.le_refl _, id⟩
theorem SubR.trans {a b c : RS} (h : SubR a b) (k : SubR b c) : SubR a c := ⟨fun hc w hw => k.gl (h.cap hc) w (h.gl hc w hw), Nat.le_trans k.len h.len, fun hc => k.cap (h.cap hc)⟩
theorem SubR.take (r : RS) (k : Nat) : SubR r (takeR r k) := by
  refine ⟨fun hc w hw => ?_, takeR_len r k, fun hc => takeR_cap hc⟩
  unfold takeR; split
  · exact hw.drop (sz := 1) k hc
  · exact hw
theorem take1_ok {r : RS} (h : r.why = 0) (hk : (takeR r 1).why = 0) : ∃ c t, r.bs = c :: t ∧ numN (tookR r 1) 0 = c.toNat ∧ (takeR r 1).bs = t := by
  by_cases ho : okR r 1
  · have hl := ho.2
    match hb : r.bs with
    | [] => rw [hb] at hl; simp at hl
    | c :: t => exact ⟨c, t, rfl, by rw [tookR_yes ho, hb]; simp [numN], by rw [takeR_yes ho, hb]; rfl⟩
  · rw [takeR_no ho, if_pos h] at hk; cases hk
theorem take1_bad {r : RS} (h : r.why = 0) (hk : (takeR r 1).why ≠ 0) : r.bs = [] := by
  by_cases ho : okR r 1
  · rw [takeR_yes ho] at hk; exact absurd rfl hk
  · match hb : r.bs with
    | [] => rfl
    | c :: t => exact absurd ⟨h, by rw [hb]; simp⟩ ho
theorem take_ok {r : RS} {k : Nat} (h : r.why = 0) (hk : (takeR r k).why = 0) : k ≤ r.bs.length ∧ tookR r k = r.bs.take k ∧ (takeR r k).bs = r.bs.drop k := by
  by_cases ho : okR r k
  · exact ⟨ho.2, tookR_yes ho, by rw [takeR_yes ho]⟩
  · rw [takeR_no ho, if_pos h] at hk; cases hk
theorem take_bad {r : RS} {k : Nat} (h : r.why = 0) (hk : (takeR r k).why ≠ 0) : r.bs.length < k := by
  by_cases ho : okR r k
  · rw [takeR_yes ho] at hk; exact absurd rfl hk
  · rcases Nat.lt_or_ge r.bs.length k with h1 | h1
    · exact h1
    · exact absurd ⟨h, h1⟩ ho
def preD (ts : List Term) : DecE (List Term × Nat × List UInt8) → DecE (List Term × Nat × List UInt8)
  | .error e => .error e
  | .ok (us, left, bs) => .ok (ts ++ us, left, bs)
theorem preD_nil (x : DecE (List Term × Nat × List UInt8)) : preD [] x = x := by
  cases x <;> rfl
theorem kidsD_step (f : Nat → List UInt8 → DecE (Term × Nat × List UInt8)) (ts : List Term) (j left : Nat) (bs : List UInt8) (t : Term) (left' : Nat) (bs' : List UInt8) (h : f left bs = .ok (t, left', bs')) :
    preD ts (kidsD f (j + 1) left bs) = preD (ts ++ [t]) (kidsD f j left' bs') := by
  rw [kidsD, h]
  show preD ts (match kidsD f j left' bs' with | .error e => .error e | .ok (us, l, b) => .ok (t :: us, l, b)) = _
  cases kidsD f j left' bs' with
  | error e => rfl
  | ok x => obtain ⟨us, l, b⟩ := x; simp [preD]
theorem kidsD_bad (f : Nat → List UInt8 → DecE (Term × Nat × List UInt8)) (ts : List Term) (j left : Nat) (bs : List UInt8) (e : Int) (h : f left bs = .error e) : preD ts (kidsD f (j + 1) left bs) = .error e := by
  rw [kidsD, h]; rfl
variable {f : Nat → List UInt8 → DecE (Term × Nat × List UInt8)} {left : Nat} {k e : Int} {bs b2 b3 b4 : List UInt8} {s : List UInt8} {u n : Int}
theorem decB_text (h : textD k bs = .error e) : decB f left k bs = .error e := by rw [decB, h]
theorem decB_user (h : textD k bs = .ok (s, b2)) (h2 : userD k b2 = .error e) : decB f left k bs = .error e := by rw [decB, h]; simp only [h2]
theorem decB_num (h : textD k bs = .ok (s, b2)) (h2 : userD k b2 = .ok (u, b3)) (h3 : numD k b3 = .error e) : decB f left k bs = .error e := by rw [decB, h]; simp only [h2, h3]
theorem decB_kids (h : textD k bs = .ok (s, b2)) (h2 : userD k b2 = .ok (u, b3)) (h3 : numD k b3 = .ok (n, b4)) (h4 : kidsD f (kidsN k) (left - 1) b4 = .error e) : decB f left k bs = .error e := by rw [decB, h]; simp only [h2, h3, h4]
theorem decB_ok {ks : List Term} {l : Nat} {b5 : List UInt8} (h : textD k bs = .ok (s, b2)) (h2 : userD k b2 = .ok (u, b3)) (h3 : numD k b3 = .ok (n, b4)) (h4 : kidsD f (kidsN k) (left - 1) b4 = .ok (ks, l, b5)) : decB f left k bs = .ok (.mk k u n s ks, l, b5) := by rw [decB, h]; simp only [h2, h3, h4]
theorem textD_none (h : hasF (fieldsOf k) 1 = false) : textD k bs = .ok ([], bs) := by unfold textD; rw [if_neg (by rw [h]; simp)]
theorem textD_nil (h : hasF (fieldsOf k) 1 = true) : textD k [] = .error 7 := by rw [textD, if_pos h]
theorem textD_long (h : hasF (fieldsOf k) 1 = true) {c : UInt8} (hc : 64 < c.toNat) : textD k (c :: bs) = .error 150 := by rw [textD, if_pos h]; simp [hc]
theorem textD_short (h : hasF (fieldsOf k) 1 = true) {c : UInt8} (hc : ¬ 64 < c.toNat) (hl : bs.length < c.toNat) : textD k (c :: bs) = .error 7 := by rw [textD, if_pos h]; simp [hc, hl]
theorem textD_ok (h : hasF (fieldsOf k) 1 = true) {c : UInt8} (hc : ¬ 64 < c.toNat) (hl : ¬ bs.length < c.toNat) : textD k (c :: bs) = .ok (bs.take c.toNat, bs.drop c.toNat) := by rw [textD, if_pos h]; simp [hc, hl]
theorem userD_none (h : hasF (fieldsOf k) 2 = false) : userD k bs = .ok (0, bs) := by unfold userD; rw [if_neg (by rw [h]; simp)]
theorem userD_nil (h : hasF (fieldsOf k) 2 = true) : userD k [] = .error 7 := by rw [userD, if_pos h]
theorem userD_ok (h : hasF (fieldsOf k) 2 = true) {c : UInt8} (hc : 1 ≤ c.toNat ∧ c.toNat ≤ 6) : userD k (c :: bs) = .ok ((c.toNat : Int), bs) := by rw [userD, if_pos h]; simp [hc]
theorem userD_bad (h : hasF (fieldsOf k) 2 = true) {c : UInt8} (hc : ¬ (1 ≤ c.toNat ∧ c.toNat ≤ 6)) : userD k (c :: bs) = .error 150 := by rw [userD, if_pos h]; simp only [if_neg hc]
theorem numD_none (h : hasF (fieldsOf k) 4 = false) : numD k bs = .ok (0, bs) := by rw [numD, if_neg (by rw [h]; simp)]
theorem numD_bad (h : hasF (fieldsOf k) 4 = true) (hl : bs.length < 2) : numD k bs = .error 7 := by rw [numD, if_pos h, if_pos hl]
theorem numD_ok (h : hasF (fieldsOf k) 4 = true) (hl : ¬ bs.length < 2) : numD k bs = .ok ((numN (bs.take 2) 0 : Int), bs.drop 2) := by rw [numD, if_pos h, if_neg hl]
theorem kidsN_int (k : Int) : kidsF (fieldsOf k) = ((kidsN k : Nat) : Int) ∧ kidsN k ≤ 2 := by
  unfold kidsN kidsF
  split
  · exact ⟨rfl, by decide⟩
  · split
    · exact ⟨rfl, by decide⟩
    · exact ⟨rfl, by decide⟩
end Go.Proofs.YtdakncgafdnjfaaGreat
namespace Go.Proofs.YtdakncgafdnjfaaGreat
open Go Go.Wk
set_option synthInstance.maxSize 100000
set_option synthInstance.maxHeartbeats 400000
set_option maxRecDepth 100000
structure PlainOk (k u n : Int) (s : List UInt8) (m : Nat) : Prop where
  kind : fieldsOf k ≠ 0
  kids : (m : Int) = kidsF (fieldsOf k)
  short : s.length ≤ 64
  text : hasF (fieldsOf k) 1 = false → s = []
  user : hasF (fieldsOf k) 2 = true → 1 ≤ u ∧ u ≤ 6
  nouser : hasF (fieldsOf k) 2 = false → u = 0
  num : hasF (fieldsOf k) 4 = true → 0 ≤ n ∧ n ≤ 65535
  nonum : hasF (fieldsOf k) 4 = false → n = 0
abbrev RB := List UInt8 × Bool
def tkB (k : Nat) (x : RB) : List UInt8 × RB := if x.2 = false ∧ k ≤ x.1.length then (x.1.take k, (x.1.drop k, false)) else ([], (x.1, true))
def RS.ab (r : RS) : RB := (r.bs, !decide (r.why = 0))
theorem tk_ab (r : RS) (k : Nat) : tookR r k = (tkB k r.ab).1 ∧ (takeR r k).ab = (tkB k r.ab).2 := by
  by_cases h : okR r k
  · have h2 : r.ab.2 = false ∧ k ≤ r.ab.1.length := ⟨by simp [RS.ab, h.1], h.2⟩
    rw [tookR_yes h, takeR_yes h, tkB, if_pos h2]
    exact ⟨rfl, rfl⟩
  · have h2 : ¬ (r.ab.2 = false ∧ k ≤ r.ab.1.length) := fun h3 => h ⟨by simpa [RS.ab] using h3.1, h3.2⟩
    rw [tookR_no h, takeR_no h, tkB, if_neg h2]
    refine ⟨rfl, ?_⟩
    by_cases hw : r.why = 0
    · simp [RS.ab, hw]
    · simp [RS.ab, hw]
def termD (raw : List UInt8) : Term × Bool :=
  if raw = [] then (zeroT, true) else
  match decT 60 1200 raw with
  | .ok (t, _, rest) => (t, decide (rest = []))
  | .error _ => (zeroT, false)
def rowD (x : RB) : PRow × Bool × RB :=
  (⟨(tkB (numN (tkB 1 x).1 0) (tkB 1 x).2).1, (termD (tkB (numN (tkB 2 (tkB (numN (tkB 1 x).1 0) (tkB 1 x).2).2).1 0) (tkB 2 (tkB (numN (tkB 1 x).1 0) (tkB 1 x).2).2).2).1).1⟩,
    (termD (tkB (numN (tkB 2 (tkB (numN (tkB 1 x).1 0) (tkB 1 x).2).2).1 0) (tkB 2 (tkB (numN (tkB 1 x).1 0) (tkB 1 x).2).2).2).1).2,
    (tkB (numN (tkB 2 (tkB (numN (tkB 1 x).1 0) (tkB 1 x).2).2).1 0) (tkB 2 (tkB (numN (tkB 1 x).1 0) (tkB 1 x).2).2).2).2)
def rowsD : Nat → RB → List PRow × Bool × RB
  | 0, x => ([], true, x)
  | k + 1, x => ((rowD x).1 :: (rowsD k (rowD x).2.2).1, (rowD x).2.1 && (rowsD k (rowD x).2.2).2.1, (rowsD k (rowD x).2.2).2.2)
def allD (bs : List UInt8) : List PRow × Bool × RB := rowsD (numN (tkB 1 (bs, false)).1 0) (tkB 1 (bs, false)).2
def decV (bs : List UInt8) : List PRow × Int :=
  if (allD bs).2.2.2 = true then ([], 7) else
  if (allD bs).2.1 = false ∨ 0 < (allD bs).2.2.1.length ∨ 64 < (allD bs).1.length ∨ batchP (allD bs).1 = false then ([], 2) else ((allD bs).1, 0)
theorem tkB_bad (k : Nat) (l : List UInt8) : tkB k (l, true) = ([], (l, true)) := by rw [tkB, if_neg (by simp)]
theorem tkB_good {k : Nat} {x : RB} (h : (tkB k x).2.2 = false) : x.2 = false := by
  obtain ⟨l, b⟩ := x
  cases b with
  | false => rfl
  | true => rw [tkB_bad] at h; cases h
theorem rowD_good {x : RB} (h : (rowD x).2.2.2 = false) : x.2 = false := tkB_good (tkB_good (tkB_good (tkB_good h)))
theorem rowsD_good {k : Nat} {x : RB} (h : (rowsD k x).2.2.2 = false) : x.2 = false := by
  induction k generalizing x with
  | zero => exact h
  | succ k ih => exact rowD_good (ih h)
theorem fields_r (k : Int) : (rKids k < 0 ↔ fieldsOf k = 0) ∧ (0 ≤ rKids k → rKids k = ((kidsN k : Nat) : Int)) ∧ hasF (fieldsOf k) 1 = decide (k = 1) ∧ hasF (fieldsOf k) 2 = rUser k ∧ hasF (fieldsOf k) 4 = rNum k := by
  by_cases hk : 1 ≤ k ∧ k ≤ 8
  · obtain ⟨h1, h2⟩ := hk
    have hk8 : k = 1 ∨ k = 2 ∨ k = 3 ∨ k = 4 ∨ k = 5 ∨ k = 6 ∨ k = 7 ∨ k = 8 := by omega
    rcases hk8 with rfl | rfl | rfl | rfl | rfl | rfl | rfl | rfl <;> refine ⟨?_, ?_, ?_, ?_, ?_⟩ <;> decide
  · have h1 : fieldsOf k = 0 := by
      unfold fieldsOf; (repeat' split) <;> omega
    have h2 : rKids k = -1 := by
      unfold rKids; rw [if_pos]; omega
    refine ⟨by rw [h1, h2]; simp, fun h => by rw [h2] at h; omega, ?_, ?_, ?_⟩
    · rw [h1, show hasF 0 1 = false from by decide, decide_eq_false (by omega)]
    · rw [h1, show hasF 0 2 = false from by decide, rUser, decide_eq_false (by omega), decide_eq_false (by omega), decide_eq_false (by omega), decide_eq_false (by omega)]; rfl
    · rw [h1, show hasF 0 4 = false from by decide, rNum, decide_eq_false (by omega), decide_eq_false (by omega)]; rfl
theorem tkB_yes {k : Nat} {l : List UInt8} (h : k ≤ l.length) : tkB k (l, false) = (l.take k, (l.drop k, false)) := by rw [tkB, if_pos ⟨rfl, h⟩]
theorem tkB_no {k : Nat} {l : List UInt8} (h : ¬ k ≤ l.length) : tkB k (l, false) = ([], (l, true)) := by rw [tkB, if_neg (fun h2 => h h2.2)]
theorem numN1 (c : UInt8) : numN [c] 0 = c.toNat := by simp [numN]
theorem numN2 (c d : UInt8) : numN [c, d] 0 = c.toNat * 256 + d.toNat := by simp [numN]; omega
theorem two_drop {bs : List UInt8} {i : Nat} (h : i + 2 ≤ bs.length) : (bs.drop i).take 2 = [nthG bs i, nthG bs (i + 1)] := by
  rw [nthG_drop (show i < bs.length by omega), nthG_drop (show i + 1 < bs.length by omega)]; rfl
section
variable {bs : List UInt8} {i n z : Nat}
theorem rowD_1 (h0 : i < bs.length) : tkB 1 (bs.drop i, false) = ([nthG bs i], (bs.drop (i + 1), false)) := by
  rw [tkB_yes (by rw [List.length_drop]; omega), List.drop_drop, nthG_drop h0]; rfl
theorem rowD_2 (hn : n = (nthG bs i).toNat) (h1 : i + 1 + n ≤ bs.length) : tkB (numN [nthG bs i] 0) (bs.drop (i + 1), false) = ((bs.drop (i + 1)).take n, (bs.drop (i + 1 + n), false)) := by
  rw [numN1, ← hn, tkB_yes (by rw [List.length_drop]; omega), List.drop_drop]
theorem rowD_3 (h1 : i + 1 + n + 2 ≤ bs.length) : tkB 2 (bs.drop (i + 1 + n), false) = ([nthG bs (i + 1 + n), nthG bs (i + 1 + n + 1)], (bs.drop (i + 1 + n + 2), false)) := by
  rw [tkB_yes (by rw [List.length_drop]; omega), List.drop_drop, two_drop (by omega)]
theorem rowD_ok (h0 : i < bs.length) (hn : n = (nthG bs i).toNat) (h1 : i + 1 + n + 2 ≤ bs.length) (hz : z = (nthG bs (i + 1 + n)).toNat * 256 + (nthG bs (i + 1 + n + 1)).toNat) (h2 : i + 1 + n + 2 + z ≤ bs.length) :
    rowD (bs.drop i, false) = (⟨(bs.drop (i + 1)).take n, (termD ((bs.drop (i + 1 + n + 2)).take z)).1⟩, (termD ((bs.drop (i + 1 + n + 2)).take z)).2, (bs.drop (i + 1 + n + 2 + z), false)) := by
  have e4 : tkB (numN [nthG bs (i + 1 + n), nthG bs (i + 1 + n + 1)] 0) (bs.drop (i + 1 + n + 2), false) = ((bs.drop (i + 1 + n + 2)).take z, (bs.drop (i + 1 + n + 2 + z), false)) := by
    rw [numN2, ← hz, tkB_yes (by rw [List.length_drop]; omega), List.drop_drop]
  rw [rowD, rowD_1 h0]; simp only
  rw [rowD_2 hn (by omega)]; simp only
  rw [rowD_3 h1]; simp only
  rw [e4]
theorem rowD_short0 (h0 : ¬ i < bs.length) : (rowD (bs.drop i, false)).2.2.2 = true := by
  rw [List.drop_of_length_le (by omega), rowD, tkB_no (by simp)]; simp only [tkB_bad]
theorem rowD_short1 (h0 : i < bs.length) (hn : n = (nthG bs i).toNat) (h1 : ¬ i + 1 + n + 2 ≤ bs.length) : (rowD (bs.drop i, false)).2.2.2 = true := by
  rw [rowD, rowD_1 h0]; simp only
  by_cases h2 : i + 1 + n ≤ bs.length
  · rw [rowD_2 hn h2]; simp only
    rw [tkB_no (by rw [List.length_drop]; omega)]; simp only [tkB_bad]
  · rw [numN1, ← hn, tkB_no (by rw [List.length_drop]; omega)]; simp only [tkB_bad]
theorem rowD_short2 (h0 : i < bs.length) (hn : n = (nthG bs i).toNat) (h1 : i + 1 + n + 2 ≤ bs.length) (hz : z = (nthG bs (i + 1 + n)).toNat * 256 + (nthG bs (i + 1 + n + 1)).toNat) (h2 : ¬ i + 1 + n + 2 + z ≤ bs.length) :
    (rowD (bs.drop i, false)).2.2.2 = true := by
  rw [rowD, rowD_1 h0]; simp only
  rw [rowD_2 hn (by omega)]; simp only
  rw [rowD_3 h1]; simp only
  rw [numN2, ← hz, tkB_no (by rw [List.length_drop]; omega)]
end
theorem rowsD_flag {j : Nat} {x : RB} (h : (rowD x).2.2.2 = true) : (rowsD (j + 1) x).2.2.2 = true := by
  cases hb : (rowsD (j + 1) x).2.2.2 with
  | true => rfl
  | false => have := rowsD_good (k := j) (x := (rowD x).2.2) hb; rw [h] at this; cases this
theorem decV_nil : decV [] = ([], 7) := by rw [decV, if_pos]; rfl
theorem decV_short {bs : List UInt8} (h : (allD bs).2.2.2 = true) : decV bs = ([], 7) := by rw [decV, if_pos h]
theorem allD_first {bs : List UInt8} (h : 0 < bs.length) : allD bs = rowsD (nthG bs 0).toNat (bs.drop 1, false) := by
  have := rowD_1 (bs := bs) (i := 0) h
  rw [List.drop_zero] at this
  rw [allD, this]; simp only [numN1]
theorem decV_end {bs : List UInt8} {l : List PRow} {g : Bool} {i : Nat} (hA : allD bs = (l, g, (bs.drop i, false))) (hi : i ≤ bs.length) :
    decV bs = if g = false ∨ i ≠ bs.length ∨ batchP l = false then ([], 2) else (l, 0) := by
  rw [decV, hA, if_neg (by simp)]
  simp only
  by_cases hc : g = false ∨ i ≠ bs.length ∨ batchP l = false
  · rw [if_pos hc, if_pos]
    rcases hc with h | h | h
    · exact .inl h
    · exact .inr (.inl (by rw [List.length_drop]; omega))
    · exact .inr (.inr (.inr h))
  · rw [if_neg hc, if_neg]
    rintro (h | h | h | h)
    · exact hc (.inl h)
    · rw [List.length_drop] at h; exact hc (.inr (.inl (by omega)))
    · refine hc (.inr (.inr ?_)); rw [batchP, decide_eq_false (by omega), Bool.and_false]
    · exact hc (.inr (.inr h))
def DecAt (bs : List UInt8) (i m left : Nat) (t : Term) (j k : Nat) (e : Int) : Prop :=
  (e = 0 ∧ decT m left (bs.drop i) = .ok (t, left - k, bs.drop j) ∧ k ≤ left ∧ j ≤ bs.length) ∨ (decT m left (bs.drop i) = .error e ∧ e ≠ 0 ∧ t = zeroT ∧ j = 0 ∧ k = 0)
theorem dec_termD {bs : List UInt8} {a z j k : Nat} {t : Term} {e : Int} (hz : 0 < z) (ha : a + z ≤ bs.length) (h : DecAt (bs.take (a + z)) a 60 1200 t j k e) :
    t = (termD ((bs.drop a).take z)).1 ∧ (decide (e = 0) && decide (j = a + z)) = (termD ((bs.drop a).take z)).2 := by
  have hr : (bs.take (a + z)).drop a = (bs.drop a).take z := by rw [List.drop_take, show a + z - a = z from by omega]
  have hne : (bs.drop a).take z ≠ [] := fun h => by
    have := congrArg List.length h
    rw [List.length_take, List.length_drop, List.length_nil] at this; omega
  rw [termD, if_neg hne]
  rcases h with ⟨rfl, hd, hk, hj⟩ | ⟨hd, he, rfl, rfl, rfl⟩
  · rw [hr] at hd
    rw [hd]
    refine ⟨rfl, ?_⟩
    simp only [decide_true, Bool.true_and]
    rw [List.length_take] at hj
    congr 1
    rw [List.drop_eq_nil_iff, List.length_take]
    exact propext ⟨fun h => by omega, fun h => by omega⟩
  · rw [hr] at hd
    rw [hd]
    exact ⟨rfl, by rw [decide_eq_false he]; rfl⟩
section
variable {P : Program} {r : Option Nat} {ops : Array Oper} {Q : Exit → Act → World → Prop} {w0 : World} {M0 : Nat → Prop} {ds : List Deferred} {a : Act} {w : World} {l : List Value} {bs : List Wk.Item} {fs : List (World → Prop)}
  {d : Option Nat} {t t' ty : TypeId} {pos : String} {af : Array Edge} {rest : List Oper} {e : TypeId} {x : Operand} {ys : List UInt8}
theorem scvb {l' : Nat → Nat → List Value} (S : St w0 M0 ds a w l bs fs) [Ev ⟨[], l⟩ x (str ys)] [ht : Und P t .string] [ht' : Und P t' (.slice e)] [he : Und P e (.int .u8)] [hp : ∀ b c, PutO l d (.slice (some ⟨b, 0, none⟩) ys.length c) (l' b c)]
    (K : ∀ b c a w, St w0 M0 ds a w (l' b c) bs (GlF (some ⟨b, 0, none⟩) ys :: fs) → WL P r ops Q rest a w) : WL P r ops Q (⟨d, .convert t t' x, ty, pos, af, none⟩ :: rest) a w := by
  refine wl_plain rfl ?_
  rw [semAt_nd rfl]
  have hr := Lib.run_convert_string_bytes (P := P) w t t' e ⟨ys.toArray⟩ ht.eq ht'.eq he.eq
  have e1 : (xop a.eval (.convert t t' x) ty).run P w = .ok (.value (.slice (some ⟨w.heap.size, 0, none⟩) ys.length (grownCap w (ByteArray.size ⟨ys.toArray⟩) 0 e))) (Lib.bytesWorld w e ⟨ys.toArray⟩) := by
    simp only [xop, execOp, S.fr.ev (x := x) (v := str ys), Sem.run_bind, str]
    rw [hr]; rfl
  simp only [e1, Oper.uponIn]
  have := hp w.heap.size (grownCap w (ByteArray.size ⟨ys.toArray⟩) 0 e)
  have S' := S.put (d := d) (v := .slice (some ⟨w.heap.size, 0, none⟩) ys.length (grownCap w (ByteArray.size ⟨ys.toArray⟩) 0 e))
  have hg : Grow w (Lib.bytesWorld w e ⟨ys.toArray⟩) := ⟨rfl, rfl, rfl, by rw [Lib.bytesWorld_size]; omega, fun k hk _ => Lib.bytesWorld_at_old w e _ k hk⟩
  have hwd := S'.wd.step hg
  have S2 : St w0 M0 ds _ _ _ bs fs := ⟨S'.slots, S'.defers, hwd⟩
  refine K _ _ _ _ (S2.add ?_)
  have hs : SlF (some ⟨w.heap.size, 0, none⟩) (encL ys) (Lib.bytesWorld w e ⟨ys.toArray⟩) := ⟨nofun, fun ad had j u hu => by
    cases had
    have hj : j < ys.length := by
      have := (List.getElem?_eq_some_iff.1 hu).1
      rw [encL_len] at this
      have h2 : ys.length * Enc.sz UInt8 = ys.length := Nat.mul_one _
      omega
    have h1 := Lib.bytesWorld_cell w e ⟨ys.toArray⟩ j hj
    rw [encB_map, List.getElem?_map, List.getElem?_map, List.getElem?_eq_getElem hj] at hu
    simp only [Option.map_some, Option.some.injEq] at hu
    rw [show (⟨w.heap.size, 0, none⟩ : Addr).add j = ⟨w.heap.size, j, none⟩ from by simp only [Addr.add, Nat.zero_add]; split <;> simp_all, h1, ← hu]
    simp [List.getD, List.getElem?_eq_getElem hj]⟩
  exact fun w' hw' => ⟨hs.stable (fun ad had hm => by
    cases had
    obtain ⟨it, hi, hk⟩ := hm
    exact absurd (S.wd.lt it hi _ hk) (Nat.lt_irrefl _)) w' hw', fun _ _ => trivial⟩
end
theorem u16_beN (n : Int) : beN 2 (IntKind.u64.wrap n).toNat = be 2 (IntKind.u16.wrap n) := by
  have h1 : IntKind.u64.wrap n = n % 18446744073709551616 := by
    unfold IntKind.wrap; simp only [IntKind.bits, IntKind.signed, Bool.false_and]; simp
  have h2 : IntKind.u16.wrap n = n % 65536 := by
    unfold IntKind.wrap; simp only [IntKind.bits, IntKind.signed, Bool.false_and]; simp
  have e : ∀ x : Nat, ∀ v : Int, (v / 256) % 256 = ((x / 256 : Nat) : Int) % 256 → v % 256 = (x : Int) % 256 → beN 2 x = be 2 v := fun x v h1 h2 => by
    show [byteN x 2 0, byteN x 2 1] = [Wk.u8 (v.fdiv 256), Wk.u8 (v.fdiv 1)]
    rw [byteN, byteN]
    show [Wk.u8 ((x / 256 : Nat) : Int), Wk.u8 ((x / 1 : Nat) : Int)] = _
    rw [Nat.div_one, Int.fdiv_one, Int.fdiv_eq_ediv_of_nonneg _ (by decide)]
    unfold Wk.u8
    rw [h1, h2]
  rw [h1, h2]
  exact e _ _ (by omega) (by omega)
theorem wu64_nat (n : Int) : ∃ x : Nat, IntKind.u64.wrap n = (x : Int) ∧ x < 18446744073709551616 ∧ beN 2 x = be 2 (IntKind.u16.wrap n) := by
  have h1 : IntKind.u64.wrap n = n % 18446744073709551616 := by
    unfold IntKind.wrap; simp only [IntKind.bits, IntKind.signed, Bool.false_and]; simp
  exact ⟨(IntKind.u64.wrap n).toNat, by omega, by omega, u16_beN n⟩
theorem rbytes_c (N : Nat) : ∀ (t : LTerm) (w0 : World), SizeOf.sizeOf t ≤ N → (bytesF t.t).length ≤ 100000000 → Stable (fun _ => False) w0 (LtF t) →
    Ret Tryz.prog 136 [vL t] w0 (fun _ => False) fun v w' =>
    ∃ (p' : Option Addr) (c' : Nat), v = .slice p' (bytesF t.t).length c' ∧ w'.ownsRow 0 5 1 (.slice p' (bytesF t.t).length c') (bytesF t.t).length (encL (bytesF t.t)) ∧ ∀ ad, p' = some ad → w0.heap.size ≤ ad.block := by
  induction N with
  | zero => intro t _ h; cases t; simp at h
  | succ N ih =>
  intro t w0 hN hbd hf
  have hlen := LTerm.len_le hf
  obtain ⟨-, -, f1, f2, f3⟩ := fields_r t.kind
  have e0 : bytesF t.t = headF t.kind t.user t.num t.text ++ bytesLF (t.kids.map LTerm.t) := by rw [t.t_eq, bytesF]
  have e1 : headF t.kind t.user t.num t.text = [Wk.u8 t.kind] ++ (if t.kind = 1 then Wk.u8 t.text.length :: t.text else []) ++ (if rUser t.kind then [Wk.u8 t.user] else []) ++ (if rNum t.kind then be 2 (IntKind.u16.wrap t.num) else []) := by
    rw [headF, put1, put2, put4, f1, f2, f3]; simp
  rw [e1] at e0
  have hL := congrArg List.length e0
  simp only [List.length_append, List.length_singleton] at hL
  refine enter Tryz.func136 rfl rfl (Wd.begin (fs := [LtF t]) (by simpa using hf)) (fun a S => ?_)
  simp only [Tryz.ntmps136, List.length_cons, List.length_nil, Nat.reduceAdd, Nat.reduceSub, List.replicate_succ, List.replicate_zero, List.cons_append, List.nil_append] at S
  refine c_seq ?_; refine c_region ?_
  refine sa S ?_; clear S; intro b1 a w S
  refine sq S ?_; clear S; intro a S; refine wl_nil ?_; refine xtn ?_; refine c_seq ?_; refine c_region ?_; (iterate 3 (refine sq S ?_; clear S; intro a S))
  refine sn S ?_; clear S; intro b8 a w S
  replace S := S.boxRow b8 1 1 rfl (by decide)
  rw [show [Value.int .u8 (IntKind.u8.wrap t.kind)] = encL [Wk.u8 t.kind] from by rw [u8_wrap]; rfl] at S
  refine sq S ?_; clear S; intro a S; refine wl_nil ?_; refine xtn ?_
  refine c_mrge3 S (fun (s1 : List UInt8) (p1 : Option Addr) (c1 : Nat) uu => [(3, .slice p1 s1.length c1), (5, uu 9), (0, uu 10), (0, uu 11), (0, uu 12), (0, uu 13), (0, uu 14), (0, uu 15), (0, uu 16), (0, uu 17), (0, uu 18), (0, uu 19), (0, uu 20), (0, uu 21), (0, uu 22)]) (fun (s1 : List UInt8) (p1 : Option Addr) (c1 : Nat) => [Wk.row 5 1 p1 s1.length c1 (encL s1), Wk.box b1 43 t.cells]) (fun (s1 : List UInt8) (p1 : Option Addr) (c1 : Nat) => [LtF t]) (fun (s1 : List UInt8) (p1 : Option Addr) (c1 : Nat) => s1 = [Wk.u8 t.kind] ++ (if t.kind = 1 then Wk.u8 t.text.length :: t.text else [])) ?_ ?_
  · refine c_seq ?_; refine c_region ?_; (iterate 3 (refine sq S ?_; clear S; intro a S)); refine wl_nil ?_; refine xtn ?_
    refine c_cond S (fun h2 => ?_) (fun h2 => ?_)
    · have hk1 : t.kind = 1 := of_decide_eq_true h2
      have htl : t.text.length ≤ 100000000 := by rw [if_pos hk1] at hL; simp at hL; omega
      refine c_drwe2 (.q 0 (.q 1 (.q 2 (.q 3 (.q 4 (.q 7 (.q 8 (.b2 5 9 (.b2 6 9 (.l 9 (.l 10 (.q 11 (.e)))) (.l 6 (.l 10 (.q 11 (.e))))) (.l 5 (.l 6 (.l 10 (.q 11 (.e))))))))))))) S (fun (p6 : Option Addr) (c6 : Nat) uu => [(3, .slice p6 (Wk.u8 t.kind :: Wk.u8 t.text.length :: t.text).length c6), (8, uu 12), (0, uu 13), (0, uu 14), (0, uu 15), (0, uu 16), (0, uu 17), (0, uu 18), (0, uu 19), (0, uu 20), (0, uu 21), (0, uu 22)]) [Wk.box b1 43 t.cells] (fun (p6 : Option Addr) (c6 : Nat) => [Wk.row 5 1 p6 (Wk.u8 t.kind :: Wk.u8 t.text.length :: t.text).length c6 (encL (Wk.u8 t.kind :: Wk.u8 t.text.length :: t.text)), Wk.box b1 43 t.cells]) (fun (p6 : Option Addr) (c6 : Nat) => [LtF t]) (fun (p6 : Option Addr) (c6 : Nat) => True) ?_ ?_
      · intro w S
        (iterate 7 (refine tq S ?_; clear S; intro a S))
        refine tb2 ?_ ?_
        · refine sn S ?_; clear S; intro b17 a w S
          refine te S ?_
          refine tb2 ?_ ?_
          · refine sap S (by simp [maxLen]) (by decide) ?_; clear S; rintro p3 c3 a w - S
            rw [show encL [Wk.u8 t.kind] ++ [Value.int .u8 (IntKind.u8.wrap (t.text.length : Int))] = encL [Wk.u8 t.kind, Wk.u8 t.text.length] from by rw [u8_wrap]; rfl] at S
            refine te S ?_; refine tl ?_
            refine scvb S ?_; clear S; intro b4 c4 a w S
            refine te S ?_; refine tl ?_
            refine srn S (both_c [Wk.u8 t.kind, Wk.u8 t.text.length] t.text p3 (some ⟨b4, 0, none⟩) 2 t.text.length c3 c4 _ rfl rfl (by omega) (gl_own (S.row p3 2) (fun _ _ _ _ => trivial) (fun _ _ h => h)) (S.gl0 _)) ?_; clear S; rintro _ a w ⟨p5, c5, rfl, hown, hnew⟩ hS -
            have S := hS hown hnew
            clear hS
            rw [show [Wk.u8 t.kind, Wk.u8 t.text.length] ++ t.text = Wk.u8 t.kind :: Wk.u8 t.text.length :: t.text from rfl] at S
            refine te S ?_; refine tq S ?_; clear S; intro a S; refine tn ?_
            exact ⟨p5, c5, S.uu, trivial, S.sub _ _⟩
          · refine scvb S ?_; clear S; intro b4 c4 a w S
            refine te S ?_; refine tl ?_
            refine sap S (by simp [maxLen]) (by decide) ?_; clear S; rintro p3 c3 a w - S
            rw [show encL [Wk.u8 t.kind] ++ [Value.int .u8 (IntKind.u8.wrap (t.text.length : Int))] = encL [Wk.u8 t.kind, Wk.u8 t.text.length] from by rw [u8_wrap]; rfl] at S
            refine te S ?_; refine tl ?_
            refine srn S (both_c [Wk.u8 t.kind, Wk.u8 t.text.length] t.text p3 (some ⟨b4, 0, none⟩) 2 t.text.length c3 c4 _ rfl rfl (by omega) (gl_own (S.row p3 2) (fun _ _ _ _ => trivial) (fun _ _ h => h)) (S.gl0 _)) ?_; clear S; rintro _ a w ⟨p5, c5, rfl, hown, hnew⟩ hS -
            have S := hS hown hnew
            clear hS
            rw [show [Wk.u8 t.kind, Wk.u8 t.text.length] ++ t.text = Wk.u8 t.kind :: Wk.u8 t.text.length :: t.text from rfl] at S
            refine te S ?_; refine tq S ?_; clear S; intro a S; refine tn ?_
            exact ⟨p5, c5, S.uu, trivial, S.sub _ _⟩
        · refine scvb S ?_; clear S; intro b4 c4 a w S
          refine te S ?_; refine tl ?_
          refine sn S ?_; clear S; intro b17 a w S
          refine te S ?_; refine tl ?_
          refine sap S (by simp [maxLen]) (by decide) ?_; clear S; rintro p3 c3 a w - S
          rw [show encL [Wk.u8 t.kind] ++ [Value.int .u8 (IntKind.u8.wrap (t.text.length : Int))] = encL [Wk.u8 t.kind, Wk.u8 t.text.length] from by rw [u8_wrap]; rfl] at S
          refine te S ?_; refine tl ?_
          refine srn S (both_c [Wk.u8 t.kind, Wk.u8 t.text.length] t.text p3 (some ⟨b4, 0, none⟩) 2 t.text.length c3 c4 _ rfl rfl (by omega) (gl_own (S.row p3 2) (fun _ _ _ _ => trivial) (fun _ _ h => h)) (S.gl0 _)) ?_; clear S; rintro _ a w ⟨p5, c5, rfl, hown, hnew⟩ hS -
          have S := hS hown hnew
          clear hS
          rw [show [Wk.u8 t.kind, Wk.u8 t.text.length] ++ t.text = Wk.u8 t.kind :: Wk.u8 t.text.length :: t.text from rfl] at S
          refine te S ?_; refine tq S ?_; clear S; intro a S; refine tn ?_
          exact ⟨p5, c5, S.uu, trivial, S.sub _ _⟩
      clear S; rintro p6 c6 uu a w - S
      refine xtn ?_
      exact ⟨_, p6, c6, S.uu, by rw [if_pos hk1]; rfl, S.sub _ _⟩
    · refine c_skip ?_; refine xtn ?_
      have hk1 : ¬ t.kind = 1 := of_decide_eq_false h2
      exact ⟨[Wk.u8 t.kind], _, _, S.uu, by rw [if_neg hk1]; rfl, S.sub _ _⟩
  · clear S; rintro s1 p1 c1 uu a w hs1 S
    have hs1b : s1.length ≤ 100000010 := by
      by_cases h : t.kind = 1
      · rw [if_pos h] at hs1 hL; simp at hL; rw [hs1]; simp; omega
      · rw [if_neg h] at hs1; rw [hs1]; simp
    refine c_mrge3 S (fun (s2 : List UInt8) (p1' : Option Addr) (c1' : Nat) uu => [(3, .slice p1' s2.length c1'), (19, uu 23), (0, uu 24), (0, uu 25), (0, uu 26), (0, uu 27), (0, uu 28), (0, uu 29), (0, uu 30), (0, uu 31)]) (fun (s2 : List UInt8) (p1' : Option Addr) (c1' : Nat) => [Wk.row 5 1 p1' s2.length c1' (encL s2), Wk.box b1 43 t.cells]) (fun (s2 : List UInt8) (p1' : Option Addr) (c1' : Nat) => [LtF t]) (fun (s2 : List UInt8) (p1' : Option Addr) (c1' : Nat) => s2 = s1 ++ (if rUser t.kind then [Wk.u8 t.user] else [])) ?_ ?_
    · refine c_seq ?_; refine c_region ?_; (iterate 2 (refine sq S ?_; clear S; intro a S)); refine sc S ?_; clear S; intro a w S; refine wl_nil ?_; refine xtn ?_
      refine c_cond S (fun h4 => ?_) (fun h4 => ?_)
      · refine c_region ?_; (iterate 4 (refine sq S ?_; clear S; intro a S))
        refine sn S ?_; clear S; intro b30 a w S
        refine sap S (by simp [maxLen]; omega) (by omega) ?_; clear S; rintro p5 c5 a w - S
        rw [show encL s1 ++ [Value.int .u8 (IntKind.u8.wrap t.user)] = encL (s1 ++ [Wk.u8 t.user]) from by rw [encL_append, u8_wrap]; rfl, show s1.length + 1 = (s1 ++ [Wk.u8 t.user]).length from by simp] at S
        refine sq S ?_; clear S; intro a S; refine wl_nil ?_; refine xtn ?_
        exact ⟨_, p5, c5, S.uu, by rw [if_pos h4], S.sub _ _⟩
      · refine c_skip ?_; refine xtn ?_
        exact ⟨_, _, _, S.uu, by rw [if_neg (by rw [h4]; simp), List.append_nil], S.sub _ _⟩
    · clear S; rintro s2 p1' c1' uu a w hs2 S
      have hs2b : s2.length ≤ 100000020 := by rw [hs2, List.length_append]; split <;> simp <;> omega
      refine c_mrge3 S (fun (s3 : List UInt8) (p2' : Option Addr) (c2' : Nat) uu => [(3, .slice p2' s3.length c2'), (28, uu 32), (0, uu 33), (0, uu 34), (0, uu 35), (0, uu 36), (0, uu 37), (0, uu 38), (0, uu 39), (0, uu 40)]) (fun (s3 : List UInt8) (p2' : Option Addr) (c2' : Nat) => [Wk.row 5 1 p2' s3.length c2' (encL s3), Wk.box b1 43 t.cells]) (fun (s3 : List UInt8) (p2' : Option Addr) (c2' : Nat) => [LtF t]) (fun (s3 : List UInt8) (p2' : Option Addr) (c2' : Nat) => s3 = s2 ++ (if rNum t.kind then be 2 (IntKind.u16.wrap t.num) else [])) ?_ ?_
      · refine c_seq ?_; refine c_region ?_; (iterate 2 (refine sq S ?_; clear S; intro a S)); refine sc S ?_; clear S; intro a w S; refine wl_nil ?_; refine xtn ?_
        refine c_cond S (fun h6 => ?_) (fun h6 => ?_)
        · refine c_region ?_; (iterate 3 (refine sq S ?_; clear S; intro a S))
          obtain ⟨x7, hx7, hx7l, hx7b⟩ := wu64_nat t.num
          refine sq S ?_; clear S; intro a S
          rw [hx7] at S
          refine srn S (rhigh_c x7 2 _ hx7l (by decide)) ?_; clear S; rintro _ a w ⟨p7, c7, rfl, hown, hnew⟩ hS -
          have S := hS hown hnew
          clear hS
          rw [hx7b, be_len] at S
          refine srn S (both_c s2 (be 2 (IntKind.u16.wrap t.num)) p1' p7 s2.length 2 c1' c7 _ rfl (be_len _ _) (by omega) (gl_own (S.row p1' s2.length) (fun _ _ _ _ => trivial) (fun _ _ h => h)) (gl_own (S.row p7 2) (fun _ _ _ _ => trivial) (fun _ _ h => h))) ?_; clear S; rintro _ a w ⟨p8, c8, rfl, hown, hnew⟩ hS -
          have S := hS hown hnew
          clear hS
          refine sq S ?_; clear S; intro a S; refine wl_nil ?_; refine xtn ?_
          exact ⟨_, p8, c8, S.uu, by rw [if_pos h6], S.sub [Wk.row 5 1 p8 _ c8 _, Wk.box b1 43 t.cells] _⟩
        · refine c_skip ?_; refine xtn ?_
          exact ⟨_, _, _, S.uu, by rw [if_neg (by rw [h6]; simp), List.append_nil], S.sub _ _⟩
      · clear S; rintro s3 p2' c2' uu a w hs3 S
        (iterate 2 (refine c_seq ?_)); refine c_region ?_
        have hs3e : bytesF t.t = s3 ++ bytesLF (t.kids.map LTerm.t) := by rw [e0, hs3, hs2, hs1]
        have hs3b : s3.length ≤ 100000000 := by rw [hs3e, List.length_append] at hbd; omega
        refine sq S ?_; clear S; intro a S; refine wl_nil ?_; refine xtn ?_; refine c_block ?_
        refine c_fore4 S (fun (k : Nat) (b : List UInt8) (p' : Option Addr) (c' : Nat) uu => [(3, .slice p' b.length c'), (0, .int .i64 (k : Nat)), (36, uu 41), (0, uu 42), (0, uu 43), (0, uu 44), (0, uu 45), (0, uu 46), (0, uu 47), (0, uu 48), (0, uu 49), (0, uu 50), (0, uu 51), (0, uu 52), (0, uu 53), (0, uu 54), (0, uu 55)]) (fun (k : Nat) (b : List UInt8) (p' : Option Addr) (c' : Nat) => [Wk.row 5 1 p' b.length c' (encL b), Wk.box b1 43 t.cells]) (fun (k : Nat) (b : List UInt8) (p' : Option Addr) (c' : Nat) => [LtF t]) (fun (k : Nat) (b : List UInt8) (p' : Option Addr) (c' : Nat) => k ≤ t.kids.length ∧ b ++ bytesLF ((t.kids.drop k).map LTerm.t) = bytesF t.t) (fun (k : Nat) (b : List UInt8) (p' : Option Addr) (c' : Nat) => t.kids.length - k) (0) (s3) (p2') (c2') ?_ S.uu ?_ ?_
        · exact ⟨Nat.zero_le _, hs3e.symm⟩
        · first | exact S | exact S.sub _ _
        · clear S; rintro k b p' c' uu a w ⟨hk, hrel⟩ S
          (iterate 2 (refine c_seq ?_)); refine c_region ?_; (iterate 5 (refine sq S ?_; clear S; intro a S)); refine wl_nil ?_; refine xtn ?_
          refine c_cond S (fun h9 => ?_) (fun h9 => ?_)
          · refine c_skip ?_; refine xtn ?_; refine c_seq ?_; refine c_block ?_
            have hkl : k < t.kids.length := by simpa using h9
            have hK : KLt k t.kids.length := ⟨hkl⟩
            rw [nth_drop hkl, List.map_cons, bytesLF] at hrel
            have hbl := congrArg List.length hrel
            simp only [List.length_append] at hbl
            refine c_region ?_; (iterate 6 (refine sq S ?_; clear S; intro a S))
            refine srn S (ih (nthL t.kids k) w (by have := LTerm.kid_lt (nth_mem hkl); omega) (by omega) (S.t0 _)) ?_; clear S; rintro _ a w ⟨p9, c9, rfl, hown, hnew⟩ hS -
            have S := hS hown hnew
            clear hS
            refine srn S (both_c b (bytesF (nthL t.kids k).t) p' p9 b.length _ c' c9 _ rfl rfl (by omega) (gl_own (S.row p' b.length) (fun _ _ _ _ => trivial) (fun _ _ h => h)) (gl_own (S.row p9 (bytesF (nthL t.kids k).t).length) (fun _ _ _ _ => trivial) (fun _ _ h => h))) ?_; clear S; rintro _ a w ⟨p10, c10, rfl, hown, hnew⟩ hS -
            have S := hS hown hnew
            clear hS
            refine sq S ?_; clear S; intro a S; refine wl_nil ?_; refine xbn ?_; refine xtn ?_; refine c_region ?_; (iterate 2 (refine sq S ?_; clear S; intro a S))
            rw [w64 ((k : Int) + 1) (by omega) (by omega), show (k : Int) + 1 = ((k + 1 : Nat) : Int) from rfl] at S
            refine sq S ?_; clear S; intro a S; refine wl_nil ?_; refine xtn ?_
            exact ⟨k + 1, _, p10, c10, S.uu, ⟨hkl, by rw [List.append_assoc]; exact hrel⟩, S.sub [Wk.row 5 1 p10 _ c10 _, Wk.box b1 43 t.cells] _, by omega⟩
          · refine c_exit ?_; (iterate 2 (refine xte ?_)); refine xbe ?_; refine xtn ?_; refine c_seq ?_; refine c_region ?_; (iterate 2 (refine sq S ?_; clear S; intro a S)); refine wl_nil ?_; refine xtn ?_; refine c_ret ?_
            have hk2 : t.kids.length ≤ k := by simpa using h9
            rw [List.drop_of_length_le hk2, List.map_nil, bytesLF, List.append_nil] at hrel
            subst hrel
            have hrow := S.row p' (bytesF t.t).length
            have hnew := S.rowNew p' (bytesF t.t).length
            exact end1 S (fun _ => ⟨p', c', rfl, hrow, fun ad h => (hnew ad h).elim (fun h => h.elim) id⟩)
theorem own_capT {w : World} {e : TypeId} {sz : Nat} {p : Option Addr} {n c : Nat} {xs : List Value} (h : w.ownsRow 0 e sz (.slice p n c) n xs) : c ≤ maxLen := by
  rcases h.2 with ⟨hv, h0⟩ | ⟨g, cap, cur, hv, hb, hg, hnc, hcm, hcs, ht⟩
  · cases hv; exact Nat.zero_le _
  · cases hv; exact hcm
def DecR (Mr : Nat → Prop) (h rd m left : Nat) (r : RS) (v : Value) (w : World) : Prop := ∃ (z : LTerm) (left' : Nat) (r' : RS), v = vL z ∧ decT m left r.bs = .ok (z.t, left', r'.bs) ∧ left' ≤ left ∧ r'.why = 0 ∧ SubR r r' ∧
  (rtI h rd (left' : Nat) r').holds w ∧ Stable (fun k => (rtI h rd (left' : Nat) r').foot k ∨ Mr k) w (LtF z)
def DecX (m left : Nat) (r : RS) (ch : List PanicEntry) : Prop := ∃ e, ch = pch (wrongE e) ∧ decT m left r.bs = .error e
theorem rterm_c0 (N : Nat) : ∀ (m h rd left : Nat) (r : RS) (Mr : Nat → Prop) (w0 : World), m < N → m ≤ 60 → left ≤ 1200 → r.why = 0 → r.bs.length ≤ r.c → r.bs.length ≤ 10000000 → (∀ k, Mr k → k < w0.heap.size ∧ ¬ (rtI h rd (left : Nat) r).foot k) → (rtI h rd (left : Nat) r).holds w0 → Stable (fun k => (rtI h rd (left : Nat) r).foot k ∨ Mr k) w0 (GlF r.p r.bs) →
    RetP Tryz.prog 169 [.pointer (some ⟨h, 0, none⟩), .int .i64 (61 - (m : Nat) : Int)] w0 (rtI h rd (left : Nat) r).foot (fun v w' => DecR Mr h rd m left r v w') (fun ch _ => DecX m left r ch) := by
  induction N with
  | zero => intro m _ _ _ _ _ _ h; exact absurd h (Nat.not_lt_zero _)
  | succ N ih =>
  intro m h rd left r Mr w0 hmN hm hleft hw hc hl hMr hd hf
  refine enter Tryz.func169 rfl rfl (Wd.it2LentM (x := tmI h rd (left : Nat)) (y := rdI rd r) (Mr := Mr) (fs := [GlF r.p r.bs]) hd rfl rfl hMr (by simpa using hf)) (fun a S => ?_)
  simp only [Tryz.ntmps169, List.length_cons, List.length_nil, Nat.reduceAdd, Nat.reduceSub, List.replicate_succ, List.replicate_zero, List.cons_append, List.nil_append] at S
  refine c_seq ?_; refine c_region ?_
  refine sa S ?_; clear S; intro b4 a w S
  refine wl_nil ?_; refine xtn ?_; refine c_seq ?_; refine c_region ?_; (iterate 4 (refine sq S ?_; clear S; intro a S))
  refine sit (rdI rd r) S (u8R_c rd r _ hc hl (S.it (rdI rd r)) (S.lend (rdI rd r) (S.mem.fact (GlF r.p r.bs)))) rfl ?_; clear S; rintro _ a w ⟨rfl, hh⟩ hS
  have S := hS (rdI rd (takeR r 1)) hh (fun k h => .inl h)
  clear hS
  obtain ⟨kd, hkd⟩ : ∃ kd, kd = numN (tookR r 1) 0 := ⟨_, rfl⟩
  rw [← hkd] at S
  have hkl : kd < 256 := by rw [hkd]; exact (took_num r 1 (by decide)).2
  refine sq S ?_; clear S; intro a S
  rw [w64 (kd : Int) (by omega) (by omega)] at S
  refine sq S ?_; clear S; intro a S
  refine sa S ?_; clear S; intro b5 a w S
  refine sw S ?_; clear S; intro a w S; refine wl_nil ?_; refine xtn ?_; refine c_seq ?_; refine c_region ?_; (iterate 2 (refine sq S ?_; clear S; intro a S)); refine sc S ?_; clear S; intro a w S; refine sq S ?_; clear S; intro a S; refine wl_nil ?_; refine xtn ?_; refine c_seq ?_; refine c_region ?_; (iterate 5 (refine sq S ?_; clear S; intro a S))
  rw [w64 ((left : Int) - 1) (by omega) (by omega)] at S
  replace S := S.add (Φ := GlF (takeR r 1).p (takeR r 1).bs) (takeR_gl hc (S.mem.fact (GlF r.p r.bs)))
  have hsub1 : SubR r (takeR r 1) := SubR.take r 1
  (iterate 2 (refine sq S ?_; clear S; intro a S)); refine sw S ?_; clear S; intro a w S; refine wl_nil ?_; refine xtn ?_; refine c_seq ?_; refine c_region ?_; (iterate 4 (refine sq S ?_; clear S; intro a S)); (iterate 5 (refine gQ S ?_; clear S; intro a S)); (iterate 2 (refine sq S ?_; clear S; intro a S)); (iterate 2 (refine gQ S ?_; clear S; intro a S)); refine sq S ?_; clear S; intro a S
  refine srP S (needR_c h rd ((left : Int) - 1) (takeR r 1) _ w (BoxF.stable (S.box h) (fun h => h)) (BoxF.stable (S.box rd) (fun h => h))) (fun ch w' hx S => ?_) ?_
  · repeat (first | refine xtp ?_ | refine xbp ?_)
    refine endX S ?_
    obtain ⟨e, rfl, (⟨h1, rfl⟩ | ⟨h1, h2, rfl⟩)⟩ := hx
    · exact ⟨7, rfl, by rw [take1_bad hw h1, decT_nil]⟩
    · obtain ⟨c, t, hbs, hnum, hr1⟩ := take1_ok hw h1
      refine ⟨150, rfl, ?_⟩
      rw [hbs, decT_cons, if_pos]
      rw [hkd, hnum] at h2
      simp only [Bool.and_eq_false_iff, Bool.not_eq_false', decide_eq_true_eq, decide_eq_false_iff_not] at h2
      omega
  clear S; rintro _ a w ⟨hw1, hb⟩ S
  obtain ⟨c, t, hbs, hnum, hr1⟩ := take1_ok hw hw1
  rw [← hkd] at hnum
  simp only [Bool.and_eq_true, Bool.not_eq_true', decide_eq_true_eq, decide_eq_false_iff_not] at hb
  have hdec : decT m left r.bs = decB (decT (m - 1)) left (kd : Int) t := by
    rw [hbs, decT_cons, if_neg (by rw [← hnum]; omega), ← hnum]
  obtain ⟨r1, hr1e⟩ : ∃ r1, r1 = takeR r 1 := ⟨_, rfl⟩
  rw [← hr1e] at S hw1 hr1 hsub1
  have hc1 := hsub1.cap hc
  have hl1 := hsub1.len
  refine wl_nil ?_; refine xtn ?_
  refine c_mrge2 S (fun (r2 : RS) (s : List UInt8) uu => [(7, uu 7), (32, uu 40), (0, uu 41), (0, uu 42), (0, uu 43), (0, uu 44), (0, uu 45), (0, uu 46), (0, uu 47), (0, uu 48), (0, uu 49), (0, uu 50), (0, uu 51), (0, uu 52), (0, uu 53), (0, uu 54), (0, uu 55), (0, uu 56), (0, uu 57), (0, uu 58), (0, uu 59), (0, uu 60), (0, uu 61)]) (fun (r2 : RS) (s : List UInt8) => [Wk.box b5 43 [.int .i64 kd, .int .i64 0, .int .i64 0, str s, .slice none 0 0], tmI h rd ((left : Int) - 1), rdI rd r2, Wk.box b4 43 [.int .i64 0, .int .i64 0, .int .i64 0, .string ⟨#[]⟩, .slice none 0 0], ext Mr]) (fun (r2 : RS) (s : List UInt8) => [GlF r2.p r2.bs]) (fun (r2 : RS) (s : List UInt8) => textD (kd : Int) t = .ok (s, r2.bs) ∧ r2.why = 0 ∧ SubR r1 r2) ?_ ?_
  · refine c_seq ?_; refine c_region ?_; refine sq S ?_; clear S; intro a S; refine sc S ?_; clear S; intro a w S; refine wl_nil ?_; refine xtn ?_
    refine c_cond S (fun h5 => ?_) (fun h5 => ?_)
    · refine c_seq ?_; refine c_region ?_; (iterate 4 (refine sq S ?_; clear S; intro a S))
      refine sit (rdI rd r1) S (u8R_c rd r1 _ hc1 (by omega) (S.it (rdI rd r1)) (S.lend (rdI rd r1) (S.mem.fact (GlF r1.p r1.bs)))) rfl ?_; clear S; rintro _ a w ⟨rfl, hh⟩ hS
      have S := hS (rdI rd (takeR r1 1)) hh (fun k h => .inl h)
      clear hS
      obtain ⟨nn, hnn⟩ : ∃ nn, nn = numN (tookR r1 1) 0 := ⟨_, rfl⟩
      rw [← hnn] at S
      have hnl : nn < 256 := by rw [hnn]; exact (took_num r1 1 (by decide)).2
      replace S := S.add (Φ := GlF (takeR r1 1).p (takeR r1 1).bs) (takeR_gl hc1 (S.mem.fact (GlF r1.p r1.bs)))
      refine sq S ?_; clear S; intro a S
      rw [w64 (nn : Int) (by omega) (by omega)] at S
      refine sq S ?_; clear S; intro a S; refine wl_nil ?_; refine xtn ?_; refine c_seq ?_; refine c_region ?_; (iterate 3 (refine sq S ?_; clear S; intro a S))
      refine srP S (needR_c h rd ((left : Int) - 1) (takeR r1 1) _ w (BoxF.stable (S.box h) (fun h => h)) (BoxF.stable (S.box rd) (fun h => h))) (fun ch w' hx S => ?_) ?_
      · repeat (first | refine xtp ?_ | refine xbp ?_)
        refine endX S ?_
        obtain ⟨e, rfl, (⟨h1, rfl⟩ | ⟨h1, h2, rfl⟩)⟩ := hx
        · refine ⟨7, rfl, ?_⟩
          rw [hdec, ← hr1, take1_bad hw1 h1]; exact decB_text (textD_nil h5)
        · obtain ⟨c2, t2, hb2, hn2, -⟩ := take1_ok hw1 h1
          refine ⟨150, rfl, ?_⟩
          rw [hdec, ← hr1, hb2]
          refine decB_text (textD_long h5 ?_)
          have := of_decide_eq_false h2
          omega
      clear S; rintro _ a w ⟨hw1b, hb1⟩ S
      obtain ⟨c2, t2, hb2, hn2, hr2⟩ := take1_ok hw1 hw1b
      rw [← hnn] at hn2
      have hb1 := of_decide_eq_true hb1
      obtain ⟨r1b, hr1b⟩ : ∃ r1b, r1b = takeR r1 1 := ⟨_, rfl⟩
      have hsub1b : SubR r1 r1b := hr1b ▸ SubR.take r1 1
      rw [← hr1b] at S hw1b hr2
      have hc1b := hsub1b.cap hc1
      have hl1b := hsub1b.len
      refine wl_nil ?_; refine xtn ?_; refine c_seq ?_; refine c_region ?_; (iterate 5 (refine sq S ?_; clear S; intro a S))
      refine sit (rdI rd r1b) S (rawR_c rd r1b nn _ (by omega) hc1b (by omega) (S.it (rdI rd r1b)) (S.lend (rdI rd r1b) (S.mem.fact (GlF r1b.p r1b.bs)))) rfl ?_; clear S; rintro _ a w ⟨p8, c8, rfl, hh, hf8⟩ hS
      have S := hS (both (Wk.row 5 1 p8 (tookR r1b nn).length c8 (encL (tookR r1b nn))) (rdI rd (takeR r1b nn))) hh hf8
      clear hS
      replace S := S.front (both (Wk.row 5 1 p8 (tookR r1b nn).length c8 (encL (tookR r1b nn))) (rdI rd (takeR r1b nn)))
      replace S := S.ofBoth
      replace S := S.add (Φ := GlF (takeR r1b nn).p (takeR r1b nn).bs) (takeR_gl hc1b (S.mem.fact (GlF r1b.p r1b.bs)))
      (iterate 2 (refine sq S ?_; clear S; intro a S)); refine sw S ?_; clear S; intro a w S; refine wl_nil ?_; refine xtn ?_; refine c_region ?_; refine sq S ?_; clear S; intro a S
      refine srP S (needR_c h rd ((left : Int) - 1) (takeR r1b nn) _ w (BoxF.stable (S.box h) (fun h => h)) (BoxF.stable (S.box rd) (fun h => h))) (fun ch w' hx S => ?_) ?_
      · repeat (first | refine xtp ?_ | refine xbp ?_)
        refine endX S ?_
        obtain ⟨e, rfl, (⟨h1, rfl⟩ | ⟨h1, h2, rfl⟩)⟩ := hx
        · refine ⟨7, rfl, ?_⟩
          have hsh := take_bad hw1b h1
          rw [hdec, ← hr1, hb2]
          refine decB_text (textD_short h5 (by omega) ?_)
          rw [← hr2, ← hn2]; exact hsh
        · cases h2
      clear S; rintro _ a w ⟨hw1c, -⟩ S
      obtain ⟨q1, q2, q3⟩ := take_ok hw1b hw1c
      refine wl_nil ?_; refine xtn ?_
      replace S := ((((S.front (ext Mr)).front (Wk.box b4 43 [.int .i64 0, .int .i64 0, .int .i64 0, .string ⟨#[]⟩, .slice none 0 0])).front (rdI rd (takeR r1b nn))).front (tmI h rd ((left : Int) - 1))).front (Wk.box b5 43 [.int .i64 kd, .int .i64 0, .int .i64 0, str (tookR r1b nn), .slice none 0 0])
      refine ⟨takeR r1b nn, tookR r1b nn, S.uu, ⟨?_, hw1c, hsub1b.trans (SubR.take r1b nn)⟩, S.sub _ _⟩
      rw [← hr1, hb2, textD_ok h5 (by omega) (by rw [← hr2, ← hn2]; omega), q2, q3, ← hr2, ← hn2]
    · refine c_skip ?_; refine xtn ?_
      rw [show (Value.string ⟨#[]⟩) = str [] from rfl] at S
      replace S := ((((S.front (ext Mr)).front (Wk.box b4 43 [.int .i64 0, .int .i64 0, .int .i64 0, str [], .slice none 0 0])).front (rdI rd r1)).front (tmI h rd ((left : Int) - 1))).front (Wk.box b5 43 [.int .i64 kd, .int .i64 0, .int .i64 0, str [], .slice none 0 0])
      exact ⟨r1, [], S.uu, ⟨by rw [← hr1]; exact textD_none h5, hw1, SubR.refl r1⟩, S.sub _ _⟩
  · clear S; rintro r2 s uu a w ⟨htx, hw2, hsub2⟩ S
    have hc2 := hsub2.cap hc1
    have hl2 := hsub2.len
    refine c_mrge2 S (fun (r3 : RS) (u : Int) uu => [(62, uu 62), (0, uu 63), (0, uu 64), (0, uu 65), (0, uu 66), (0, uu 67), (0, uu 68), (0, uu 69), (0, uu 70), (0, uu 71), (0, uu 72), (0, uu 73), (0, uu 74), (0, uu 75)]) (fun (r3 : RS) (u : Int) => [Wk.box b5 43 [.int .i64 kd, .int .i64 u, .int .i64 0, str s, .slice none 0 0], tmI h rd ((left : Int) - 1), rdI rd r3, Wk.box b4 43 [.int .i64 0, .int .i64 0, .int .i64 0, .string ⟨#[]⟩, .slice none 0 0], ext Mr]) (fun (r3 : RS) (u : Int) => [GlF r3.p r3.bs]) (fun (r3 : RS) (u : Int) => userD (kd : Int) r2.bs = .ok (u, r3.bs) ∧ r3.why = 0 ∧ SubR r2 r3) ?_ ?_
    · refine c_seq ?_; refine c_region ?_; refine sq S ?_; clear S; intro a S; refine sc S ?_; clear S; intro a w S; refine wl_nil ?_; refine xtn ?_
      refine c_cond S (fun h10 => ?_) (fun h10 => ?_)
      · refine c_seq ?_; refine c_region ?_; (iterate 4 (refine sq S ?_; clear S; intro a S))
        refine sit (rdI rd r2) S (u8R_c rd r2 _ hc2 (by omega) (S.it (rdI rd r2)) (S.lend (rdI rd r2) (S.mem.fact (GlF r2.p r2.bs)))) rfl ?_; clear S; rintro _ a w ⟨rfl, hh⟩ hS
        have S := hS (rdI rd (takeR r2 1)) hh (fun k h => .inl h)
        clear hS
        obtain ⟨uu', huu⟩ : ∃ uu', uu' = numN (tookR r2 1) 0 := ⟨_, rfl⟩
        rw [← huu] at S
        have hul : uu' < 256 := by rw [huu]; exact (took_num r2 1 (by decide)).2
        replace S := S.add (Φ := GlF (takeR r2 1).p (takeR r2 1).bs) (takeR_gl hc2 (S.mem.fact (GlF r2.p r2.bs)))
        refine sq S ?_; clear S; intro a S
        rw [w64 (uu' : Int) (by omega) (by omega)] at S
        refine sq S ?_; clear S; intro a S; refine sw S ?_; clear S; intro a w S; refine wl_nil ?_; refine xtn ?_; refine c_region ?_; (iterate 3 (refine sq S ?_; clear S; intro a S)); refine sc S ?_; clear S; intro a w S
        refine srP S (needR_c h rd ((left : Int) - 1) (takeR r2 1) _ w (BoxF.stable (S.box h) (fun h => h)) (BoxF.stable (S.box rd) (fun h => h))) (fun ch w' hx S => ?_) ?_
        · repeat (first | refine xtp ?_ | refine xbp ?_)
          refine endX S ?_
          obtain ⟨e, rfl, (⟨h1, rfl⟩ | ⟨h1, h2, rfl⟩)⟩ := hx
          · refine ⟨7, rfl, ?_⟩
            rw [hdec]; refine decB_user htx ?_
            rw [take1_bad hw2 h1]; exact userD_nil h10
          · obtain ⟨c3, t3, hb3, hn3, -⟩ := take1_ok hw2 h1
            refine ⟨150, rfl, ?_⟩
            rw [hdec]; refine decB_user htx ?_
            rw [hb3]
            refine userD_bad h10 ?_
            simp only [knownF, Bool.and_eq_false_iff, decide_eq_false_iff_not] at h2
            omega
        clear S; rintro _ a w ⟨hw2b, hb3⟩ S
        obtain ⟨c3, t3, hbb3, hn3, hr3⟩ := take1_ok hw2 hw2b
        rw [← huu] at hn3
        simp only [knownF, Bool.and_eq_true, decide_eq_true_eq] at hb3
        refine wl_nil ?_; refine xtn ?_
        replace S := ((((S.front (ext Mr)).front (Wk.box b4 43 [.int .i64 0, .int .i64 0, .int .i64 0, .string ⟨#[]⟩, .slice none 0 0])).front (rdI rd (takeR r2 1))).front (tmI h rd ((left : Int) - 1))).front (Wk.box b5 43 [.int .i64 kd, .int .i64 (uu' : Int), .int .i64 0, str s, .slice none 0 0])
        refine ⟨takeR r2 1, (uu' : Int), S.uu, ⟨?_, hw2b, SubR.take r2 1⟩, S.sub _ _⟩
        rw [hbb3, userD_ok h10 (by omega), hr3, hn3]
      · refine c_skip ?_; refine xtn ?_
        exact ⟨r2, 0, S.uu, ⟨userD_none h10, hw2, SubR.refl r2⟩, S.sub _ _⟩
    · clear S; rintro r3 u uu a w ⟨hus, hw3, hsub3⟩ S
      have hc3 := hsub3.cap hc2
      have hl3 := hsub3.len
      refine c_mrge2 S (fun (r4 : RS) (n : Int) uu => [(76, uu 76), (0, uu 77), (0, uu 78), (0, uu 79), (0, uu 80), (0, uu 81), (0, uu 82), (0, uu 83), (0, uu 84), (0, uu 85), (0, uu 86)]) (fun (r4 : RS) (n : Int) => [Wk.box b5 43 [.int .i64 kd, .int .i64 u, .int .i64 n, str s, .slice none 0 0], tmI h rd ((left : Int) - 1), rdI rd r4, Wk.box b4 43 [.int .i64 0, .int .i64 0, .int .i64 0, .string ⟨#[]⟩, .slice none 0 0], ext Mr]) (fun (r4 : RS) (n : Int) => [GlF r4.p r4.bs]) (fun (r4 : RS) (n : Int) => numD (kd : Int) r3.bs = .ok (n, r4.bs) ∧ r4.why = 0 ∧ SubR r3 r4) ?_ ?_
      · refine c_seq ?_; refine c_region ?_; refine sq S ?_; clear S; intro a S; refine sc S ?_; clear S; intro a w S; refine wl_nil ?_; refine xtn ?_
        refine c_cond S (fun h13 => ?_) (fun h13 => ?_)
        · refine c_seq ?_; refine c_region ?_; (iterate 4 (refine sq S ?_; clear S; intro a S))
          refine sit (rdI rd r3) S (u16R_c rd r3 _ hc3 (by omega) (S.it (rdI rd r3)) (S.lend (rdI rd r3) (S.mem.fact (GlF r3.p r3.bs)))) rfl ?_; clear S; rintro _ a w ⟨rfl, hh⟩ hS
          have S := hS (rdI rd (takeR r3 2)) hh (fun k h => .inl h)
          clear hS
          obtain ⟨n2, hn2⟩ : ∃ n2, n2 = numN (tookR r3 2) 0 := ⟨_, rfl⟩
          rw [← hn2] at S
          have hn2l : n2 < 65536 := by rw [hn2]; exact (took_num r3 2 (by decide)).2
          replace S := S.add (Φ := GlF (takeR r3 2).p (takeR r3 2).bs) (takeR_gl hc3 (S.mem.fact (GlF r3.p r3.bs)))
          refine sq S ?_; clear S; intro a S
          rw [w64 (n2 : Int) (by omega) (by omega)] at S
          refine sq S ?_; clear S; intro a S; refine sw S ?_; clear S; intro a w S; refine wl_nil ?_; refine xtn ?_; refine c_region ?_; refine sq S ?_; clear S; intro a S
          refine srP S (needR_c h rd ((left : Int) - 1) (takeR r3 2) _ w (BoxF.stable (S.box h) (fun h => h)) (BoxF.stable (S.box rd) (fun h => h))) (fun ch w' hx S => ?_) ?_
          · repeat (first | refine xtp ?_ | refine xbp ?_)
            refine endX S ?_
            obtain ⟨e, rfl, (⟨h1, rfl⟩ | ⟨h1, h2, rfl⟩)⟩ := hx
            · refine ⟨7, rfl, ?_⟩
              rw [hdec]; refine decB_num htx hus ?_
              exact numD_bad h13 (take_bad hw3 h1)
            · cases h2
          clear S; rintro _ a w ⟨hw3b, -⟩ S
          obtain ⟨q1, q2, q3⟩ := take_ok hw3 hw3b
          refine wl_nil ?_; refine xtn ?_
          replace S := ((((S.front (ext Mr)).front (Wk.box b4 43 [.int .i64 0, .int .i64 0, .int .i64 0, .string ⟨#[]⟩, .slice none 0 0])).front (rdI rd (takeR r3 2))).front (tmI h rd ((left : Int) - 1))).front (Wk.box b5 43 [.int .i64 kd, .int .i64 u, .int .i64 (n2 : Int), str s, .slice none 0 0])
          refine ⟨takeR r3 2, (n2 : Int), S.uu, ⟨?_, hw3b, SubR.take r3 2⟩, S.sub _ _⟩
          rw [numD_ok h13 (by omega), q3, hn2, q2]
        · refine c_skip ?_; refine xtn ?_
          exact ⟨r3, 0, S.uu, ⟨numD_none h13, hw3, SubR.refl r3⟩, S.sub _ _⟩
      · clear S; rintro r4 n uu a w ⟨hnu, hw4, hsub4⟩ S
        (iterate 2 (refine c_seq ?_)); refine c_region ?_; refine sq S ?_; clear S; intro a S
        have hc4 := hsub4.cap hc3
        have hl4 := hsub4.len
        obtain ⟨hkn, hkn2⟩ := kidsN_int (kd : Int)
        refine sr S (kids_c (fieldsOf (kd : Int)) _) ?_; clear S; rintro _ a w rfl S
        rw [hkn, show (left : Int) - 1 = ((left - 1 : Nat) : Int) from by omega] at S
        refine sq S ?_; clear S; intro a S; refine wl_nil ?_; refine xtn ?_; refine c_block ?_
        refine c_fore6 S (fun (k : Nat) (zs : List LTerm) (r5 : RS) (lf : Nat) (p5 : Option Addr) (c5 : Nat) uu => [(89, .int .i64 (k : Nat)), (0, uu 90), (0, uu 91), (0, uu 92), (0, uu 93), (0, uu 94), (0, uu 95), (0, uu 96), (0, uu 97), (0, uu 98), (0, uu 99), (0, uu 100)]) (fun (k : Nat) (zs : List LTerm) (r5 : RS) (lf : Nat) (p5 : Option Addr) (c5 : Nat) => [Wk.box b5 43 [.int .i64 kd, .int .i64 u, .int .i64 n, str s, .slice p5 k c5], Wk.row 43 5 p5 k c5 (encL zs), tmI h rd (lf : Nat), rdI rd r5, Wk.box b4 43 [.int .i64 0, .int .i64 0, .int .i64 0, .string ⟨#[]⟩, .slice none 0 0], ext Mr]) (fun (k : Nat) (zs : List LTerm) (r5 : RS) (lf : Nat) (p5 : Option Addr) (c5 : Nat) => [AllL zs, GlF r5.p r5.bs]) (fun (k : Nat) (zs : List LTerm) (r5 : RS) (lf : Nat) (p5 : Option Addr) (c5 : Nat) => k = zs.length ∧ k ≤ kidsN (kd : Int) ∧ lf ≤ left - 1 ∧ r5.why = 0 ∧ SubR r4 r5 ∧ kidsD (decT (m - 1)) (kidsN (kd : Int)) (left - 1) r4.bs = preD (zs.map LTerm.t) (kidsD (decT (m - 1)) (kidsN (kd : Int) - k) lf r5.bs)) (fun (k : Nat) (zs : List LTerm) (r5 : RS) (lf : Nat) (p5 : Option Addr) (c5 : Nat) => kidsN (kd : Int) - k) (0) ([]) (r4) (left - 1) (none) (0) ?_ S.uu ?_ ?_
        · exact ⟨rfl, Nat.zero_le _, Nat.le_refl _, hw4, SubR.refl r4, (preD_nil _).symm⟩
        · replace S := S.addNil 43 5
          replace S := S.add (Φ := AllL []) (fun _ _ _ hx => by cases hx)
          rw [show Wk.row 43 5 none 0 0 [] = Wk.row 43 5 none 0 0 (encL ([] : List LTerm)) from rfl] at S
          exact S.front (Wk.box b5 43 [.int .i64 kd, .int .i64 u, .int .i64 n, str s, .slice none 0 0])
        · clear S; rintro k zs r5 lf p5 c5 uu a w ⟨hkz, hk, hlf, hw5, hsub5, hkd5⟩ S
          refine c_seq ?_; refine c_region ?_; refine sq S ?_; clear S; intro a S; refine wl_nil ?_; refine xtn ?_; refine c_seq ?_
          refine c_cond S (fun h17 => ?_) (fun h17 => ?_)
          · refine c_skip ?_; refine xtn ?_; refine c_seq ?_; refine c_block ?_
            have hkl : k < kidsN (kd : Int) := by simp at h17; omega
            have hc5 := hsub5.cap hc4
            have hl5 := hsub5.len
            have hkk : kidsN (kd : Int) - k = (kidsN (kd : Int) - (k + 1)) + 1 := by omega
            refine c_drawXL 9 [(0, true), (1, true), (2, true), (3, true), (4, true), (5, false), (6, false), (7, false), (8, true), (9, false)] [Wk.box b5 43 [.int .i64 kd, .int .i64 u, .int .i64 n, str s, .slice p5 k c5]] (⟨[], [], fun ch w => Agree (rtI h rd (left : Nat) r).foot w0 w ∧ DecX m left r ch⟩) S (fun ch a w ⟨_, hd, ha, hx⟩ => by repeat (first | refine xtp ?_ | refine xbp ?_); exact ⟨hd, .inr ⟨ch, rfl, ha, hx⟩⟩) ?_; clear S; intro w S
            (iterate 5 (refine dqXL S ?_; clear S; intro a S))
            rw [w64 ((61 : Int) - (m : Nat) + 1) (by omega) (by omega), show (61 : Int) - (m : Nat) + 1 = 61 - ((m - 1 : Nat) : Int) from by omega] at S
            refine dlXL ?_
            replace S := ((S.front (rdI rd r5)).front (tmI h rd (lf : Nat))).toBoth
            refine sitMP (rtI h rd (lf : Nat) r5) S (ih (m - 1) h rd lf r5 (restOf _ (rtI h rd (lf : Nat) r5)) w (by omega) (by omega) (by omega) hw5 hc5 (by omega) (S.restOk _) (S.it (rtI h rd (lf : Nat) r5)) ((S.mem.fact (GlF r5.p r5.bs)).split (rtI h rd (lf : Nat) r5))) rfl (fun ch w' hx hS => ?_) ?_
            · obtain ⟨e, rfl, he⟩ := hx
              have S := hS (bs' := _)
              refine XP.of S (by simp) rfl ⟨S.wd.agree, e, rfl, ?_⟩
              rw [hdec]
              refine decB_kids htx hus hnu ?_
              rw [hkd5, hkk]
              exact kidsD_bad _ _ _ _ _ _ he
            clear S; rintro _ a w ⟨z, lf', r6, rfl, hde, hlf', hw6, hsub6, hh6, hz⟩ hS
            have S := hS (rtI h rd (lf' : Nat) r6) [LtF z] hh6 (fun k h => .inl h) (by simp only [List.mem_cons, List.not_mem_nil, or_false]; rintro Φ rfl; exact hz)
            clear hS
            replace S := S.ofBoth
            replace S := S.add (Φ := GlF r6.p r6.bs) ((S.mem.fact (GlF r5.p r5.bs)).imp fun _ h => hsub6.gl hc5 _ h)
            have hA1 : Stable _ _ (AllL zs) := S.wd.facts (AllL zs) (by simp)
            have hA2 := S.t z
            replace S := S.add (Φ := AllL (zs ++ [z])) (fun w' hw' x hx => by
              rcases List.mem_append.1 hx with h | h
              · exact hA1 w' hw' x h
              · rw [List.mem_singleton.1 h]; exact hA2 w' hw')
            refine deXL S ?_; refine dlXL ?_
            refine sn S ?_; clear S; intro b97 a w S
            refine deXL S ?_; refine dlXL ?_
            refine sap S (by simp [maxLen]; omega) (by omega) ?_; clear S; rintro p7 c7 a w - S
            rw [show encL zs ++ [Value.int .i64 z.kind, .int .i64 z.user, .int .i64 z.num, str z.text, .slice z.p z.kids.length z.cap] = encL (zs ++ [z]) from by rw [encL_append]; rfl] at S
            refine deXL S ?_; refine dqXL S ?_; clear S; intro a S; refine dlXL ?_; refine sw S ?_; clear S; intro a w S; refine dzXL ?_; refine xbn ?_; refine xtn ?_; refine c_region ?_; (iterate 2 (refine sq S ?_; clear S; intro a S)); refine wl_nil ?_; refine xtn ?_
            rw [w64 ((k : Int) + 1) (by omega) (by omega)] at S
            replace S := ((((S.front (rdI rd r6)).front (tmI h rd (lf' : Nat))).front (Wk.row 43 5 p7 (k + 1) c7 (encL (zs ++ [z])))).front (Wk.box b5 43 [.int .i64 kd, .int .i64 u, .int .i64 n, str s, .slice p7 (k + 1) c7]))
            refine ⟨k + 1, zs ++ [z], r6, lf', p7, c7, S.uu, ⟨by simp [hkz], hkl, by omega, hw6, hsub5.trans hsub6, ?_⟩, S.sub _ _, by omega⟩
            rw [hkd5, hkk, kidsD_step _ _ _ _ _ z.t lf' r6.bs hde, List.map_append]; rfl
          · refine c_exit ?_; (iterate 2 (refine xte ?_)); refine xbe ?_; refine xtn ?_; refine c_seq ?_
            have hk2 : kidsN (kd : Int) = k := by simp at h17; omega
            subst hkz
            refine c_region ?_; refine sq S ?_; clear S; intro a S; refine sw S ?_; clear S; intro a w S; refine wl_nil ?_; refine xtn ?_; refine c_ret ?_
            have hrow := S.row p5 zs.length
            have hall : Stable _ _ (AllL zs) := S.wd.facts (AllL zs) (by simp)
            have hap : ∀ ad, p5 = some ad → ¬ ((rtI h rd (lf : Nat) r5).foot ad.block ∨ Mr ad.block) := fun ad had hm => by
              rcases hm with (hm | hm) | hm
              · exact St.apart2 S (Wk.row 43 5 p5 zs.length c5 (encL zs)) (tmI h rd (lf : Nat)) ad.block ⟨ad, had, rfl⟩ hm
              · exact St.apart2 S (Wk.row 43 5 p5 zs.length c5 (encL zs)) (rdI rd r5) ad.block ⟨ad, had, rfl⟩ hm
              · exact St.apart2 S (Wk.row 43 5 p5 zs.length c5 (encL zs)) (ext Mr) ad.block ⟨ad, had, rfl⟩ hm
            have hkids : Stable (fun k => (rtI h rd (lf : Nat) r5).foot k ∨ Mr k) _ (AllL zs) := hall.less fun k _ hm => by
              rcases hm with (hm | hm) | hm
              · exact ⟨tmI h rd (lf : Nat), by simp, hm⟩
              · exact ⟨rdI rd r5, by simp, hm⟩
              · exact ⟨ext Mr, by simp, hm⟩
            have hls := ls_of_own hrow (fun x hx => AllL.get hkids hx) hap
            replace S := ((S.front (rdI rd r5)).front (tmI h rd (lf : Nat))).toBoth
            have hh := S.it (rtI h rd (lf : Nat) r5)
            refine endP (end1 S (fun _ => ?_))
            refine ⟨.mk kd u n s p5 c5 zs, lf, r5, rfl, ?_, by omega, hw5, ((((hsub1.trans hsub2).trans hsub3).trans hsub4).trans hsub5), hh, fun w' hw' => ?_⟩
            · rw [hdec, LTerm.t_eq]
              refine decB_ok htx hus hnu ?_
              rw [hkd5, hk2, Nat.sub_self, kidsD, preD, List.append_nil]; rfl
            · exact LtIn.iff.2 ⟨own_le hrow, own_capT hrow, hls w' hw'⟩
theorem textD_err {k e : Int} {bs : List UInt8} (h : textD k bs = .error e) : e ≠ 0 := by
  unfold textD at h
  split at h
  · split at h
    · cases h; decide
    · split at h
      · cases h; decide
      · split at h
        · cases h; decide
        · cases h
  · cases h
theorem userD_err {k e : Int} {bs : List UInt8} (h : userD k bs = .error e) : e ≠ 0 := by
  unfold userD at h
  split at h
  · split at h
    · cases h; decide
    · split at h
      · cases h
      · cases h; decide
  · cases h
theorem numD_err {k e : Int} {bs : List UInt8} (h : numD k bs = .error e) : e ≠ 0 := by
  unfold numD at h
  split at h
  · split at h
    · cases h; decide
    · cases h
  · cases h
theorem kidsD_err {f : Nat → List UInt8 → DecE (Term × Nat × List UInt8)} (hf : ∀ l b e, f l b = .error e → e ≠ 0) : ∀ (k l : Nat) (b : List UInt8) (e : Int), kidsD f k l b = .error e → e ≠ 0
  | 0, l, b, e, h => by rw [kidsD] at h; cases h
  | k + 1, l, b, e, h => by
    rw [kidsD] at h
    split at h
    · rename_i e' he
      cases h; exact hf _ _ _ he
    · split at h
      · rename_i e' he
        cases h; exact kidsD_err hf _ _ _ _ he
      · cases h
theorem decT_err : ∀ (m left : Nat) (bs : List UInt8) (e : Int), decT m left bs = .error e → e ≠ 0 := by
  intro m
  induction m with
  | zero =>
    intro left bs e h
    cases bs with
    | nil => rw [decT_nil] at h; cases h; decide
    | cons c t => rw [decT_cons, if_pos (.inl rfl)] at h; cases h; decide
  | succ m ih =>
    intro left bs e h
    cases bs with
    | nil => rw [decT_nil] at h; cases h; decide
    | cons c t =>
      rw [decT_cons] at h
      split at h
      · cases h; decide
      · rw [show m + 1 - 1 = m from rfl, decB] at h
        split at h
        · rename_i h1; cases h; exact textD_err h1
        · split at h
          · rename_i h1; cases h; exact userD_err h1
          · split at h
            · rename_i h1; cases h; exact numD_err h1
            · split at h
              · rename_i h1; cases h; exact kidsD_err ih _ _ _ _ h1
              · cases h
theorem tcatch_ret (p2 p3 p4 : Value) (w : World) : CallsDIn (FW none) 0 Tryz.prog 168 #[p2, p3, p4] .returning w fun e u' w' => (∃ v, e = .returned v) ∧ u' = .returning ∧ Agree (fun _ => False) w w' := by
  refine callsD_catch Tryz.func168 rfl (l := [p2, p3, p4, undef, undef, undef, undef, undef, undef, undef, undef, undef, undef, undef, undef, undef, undef, undef, undef, undef]) (args := [p2, p3, p4]) rfl (Wd.start w) (.inl rfl) ?_
  rintro x u' (⟨-, rfl, rfl⟩ | ⟨pv, h, -⟩) a S
  · refine c_seq ?_; refine c_region ?_; (iterate 2 (refine sq S ?_; clear S; intro a S)); refine wl_nil ?_; refine xtn ?_; refine c_condF S ?_; refine c_skip ?_
    exact ⟨.inl rfl, S.defers, .tuple #[], resC S, ⟨_, rfl⟩, rfl, S.wd.agree⟩
  · cases h
theorem tcatch_pan (g2 g3 g4 : Nat) (x0 x1 x2 x3 x4 y z : Value) (e0 : Int) (w0 w : World) (M0 : Nat → Prop) (hw : Wd w0 M0 w [Wk.box g4 26 [z], Wk.box g3 3 [y], Wk.box g2 43 [x0, x1, x2, x3, x4]] []) :
    CallsDIn (FW none) 0 Tryz.prog 168 #[.pointer (some ⟨g2, 0, none⟩), .pointer (some ⟨g3, 0, none⟩), .pointer (some ⟨g4, 0, none⟩)] (.panicking (pch (wrongE e0))) w fun e u' w' => (∃ v, e = .returned v) ∧ u' = .panicking [{ v := wrongE e0, recovered := true }] ∧
      Wd w0 M0 w' [Wk.box g4 26 [.int .i64 e0], Wk.box g3 3 [.int .i64 0], Wk.box g2 43 [.int .i64 0, .int .i64 0, .int .i64 0, .string ⟨#[]⟩, .slice none 0 0]] [] := by
  refine callsD_catch Tryz.func168 rfl (l := [.pointer (some ⟨g2, 0, none⟩), .pointer (some ⟨g3, 0, none⟩), .pointer (some ⟨g4, 0, none⟩), undef, undef, undef, undef, undef, undef, undef, undef, undef, undef, undef, undef, undef, undef, undef, undef, undef]) (args := [.pointer (some ⟨g2, 0, none⟩), .pointer (some ⟨g3, 0, none⟩), .pointer (some ⟨g4, 0, none⟩)]) rfl hw (.inr ⟨_, rfl⟩) ?_
  rintro x u' (⟨h, -⟩ | ⟨pv, h, rfl, rfl⟩) a S
  · cases h
  · obtain rfl : x = wrongE e0 := by injection h with h; injection h with h _; injection h with h; exact h.symm
    refine c_seq ?_; refine c_region ?_; (iterate 2 (refine sq S ?_; clear S; intro a S)); refine wl_nil ?_; refine xtn ?_; refine c_condT S ?_; refine c_seq ?_; refine c_region ?_; (iterate 5 (refine sq S ?_; clear S; intro a S))
    refine sa S ?_; clear S; intro b4 a w S
    refine sw S ?_; clear S; intro a w S; refine sq S ?_; clear S; intro a S; refine wl_nil ?_; refine xtn ?_; (iterate 2 (refine c_seq ?_)); refine c_region ?_; (iterate 2 (refine sq S ?_; clear S; intro a S))
    rw [show (!true) = false from rfl] at S
    refine wl_nil ?_; refine xtn ?_; refine c_condF S ?_; refine c_skip ?_; refine xtn ?_
    refine c_drawD [(0, true), (1, true), (2, true), (3, false), (4, false), (5, false)] [g2, g3, g4] S ?_; clear S; intro w S
    (iterate 3 (refine dq S ?_; clear S; intro a S)); refine dl ?_; refine sw S ?_; clear S; intro a w S; refine de S ?_; refine dl ?_; refine sw S ?_; clear S; intro a w S; refine de S ?_; refine dl ?_; refine sw S ?_; clear S; intro a w S; refine de S ?_; refine dn ?_
    refine ⟨.inl rfl, S.defers, .tuple #[], resC S, ⟨_, rfl⟩, rfl, ?_⟩
    exact (S.sub _ _).wd
theorem leftG_c (b n c : Nat) (p : Option Addr) (why : Int) (w0 : World) (hb : Stable (fun _ => False) w0 (BoxF b 238 [.slice p n c, .int .i64 why])) : Ret Tryz.prog 72 [.pointer (some ⟨b, 0, none⟩)] w0 (fun _ => False) fun v _ => v = .int .i64 (n : Nat) := by
  refine enter Tryz.func72 rfl rfl (Wd.begin (fs := [BoxF b 238 [.slice p n c, .int .i64 why]]) (by simpa using hb)) (fun a S => ?_)
  simp only [Tryz.ntmps72, List.length_cons, List.length_nil, Nat.reduceAdd, Nat.reduceSub, List.replicate_succ, List.replicate_zero, List.cons_append, List.nil_append] at S
  refine c_seq ?_; refine c_region ?_; refine sq S ?_; clear S; intro a S; refine wl_nil ?_; refine xtn ?_; (iterate 2 (refine c_seq ?_)); refine c_region ?_; (iterate 2 (refine sq S ?_; clear S; intro a S)); refine wl_nil ?_; refine xtn ?_; refine c_condF S ?_; refine c_skip ?_; refine xtn ?_; refine c_seq ?_; refine c_region ?_; (iterate 7 (refine sq S ?_; clear S; intro a S)); refine wl_nil ?_; refine xtn ?_
  refine c_ret ?_
  exact end1 S (fun _ => rfl)
instance {b n c : Nat} {p : Option Addr} {why : Int} {bs fs} [hb : HasBox bs b 238 [.slice p n c, .int .i64 why]] : CallV Tryz.prog 72 [.pointer (some ⟨b, 0, none⟩)] bs fs (.int .i64 (n : Nat)) := ⟨fun w m => leftG_c b n c p why w (BoxF.stable m.box (fun h => h))⟩
abbrev ptrT (b : Nat) : Value := .pointer (some ⟨b, 0, none⟩)
abbrev defT (b2 b3 b4 : Nat) : Deferred := { target := .fn (.func 168) ⟨[ptrT b2, ptrT b3, ptrT b4]⟩, args := #[] }
abbrev zTm : List Value := [.int .i64 0, .int .i64 0, .int .i64 0, .string ⟨#[]⟩, .slice none 0 0]
theorem tdec_pan {a : Act} {w0 w : World} {M0 : Nat → Prop} {Rr : Ending → World → Prop} (b2 b3 b4 : Nat) (x0 x1 x2 x3 x4 y z : Value) (e0 : Int) (hd : a.defers = [defT b2 b3 b4]) (h2 : a.tmps[2]? = some (ptrT b2)) (h3 : a.tmps[3]? = some (ptrT b3)) (h4 : a.tmps[4]? = some (ptrT b4))
    (hw : Wd w0 M0 w [Wk.box b4 26 [z], Wk.box b3 3 [y], Wk.box b2 43 [x0, x1, x2, x3, x4]] [])
    (hR : ∀ w', Agree M0 w0 w' → Rr (.returned (.tuple ⟨[vL zeroL, .int .i64 0, .int .i64 e0]⟩)) w') : bodyPostDIn (FW none) 0 Tryz.prog Tryz.f70 Rr (.panic (pch (wrongE e0))) a w := by
  refine leavePan (ca := [ptrT b2, ptrT b3, ptrT b4]) hd (tcatch_pan b2 b3 b4 x0 x1 x2 x3 x4 y z e0 w0 w M0 hw) fun w' hK => ⟨_, ?_, hR w' hK.agree⟩
  have n2 : Nth a.tmps.toList 2 (ptrT b2) := ⟨by simpa using h2⟩
  have n3 : Nth a.tmps.toList 3 (ptrT b3) := ⟨by simpa using h3⟩
  have n4 : Nth a.tmps.toList 4 (ptrT b4) := ⟨by simpa using h4⟩
  exact res3 (l := a.tmps.toList) rfl hK.held
def TDecR (M : Nat → Prop) (bs : List UInt8) (v : Value) (w : World) : Prop := ∃ (z : LTerm) (n e : Int), v = .tuple ⟨[vL z, .int .i64 n, .int .i64 e]⟩ ∧ Stable M w (LtF z) ∧
  ((∃ left rest, decT 60 1200 bs = .ok (z.t, left, rest) ∧ n = (bs.length : Int) - rest.length ∧ e = 0) ∨ (decT 60 1200 bs = .error e ∧ z = zeroL ∧ e ≠ 0))
theorem tdec_c (bs : List UInt8) (p : Option Addr) (n c : Nat) (M : Nat → Prop) (w0 : World) (hn : bs.length = n) (hl : n ≤ 10000000) (hM : ∀ k, M k → k < w0.heap.size) (hf : Stable M w0 (GlF p bs)) :
    Ret Tryz.prog 70 [.slice p n c] w0 (fun _ => False) fun v w' => TDecR M bs v w' := by
  subst hn
  refine enterD Tryz.func70 rfl rfl (Wd.beginM (M := M) (fs := [GlF p bs]) hM (by simpa using hf)) (fun a S => ?_)
  simp only [Tryz.ntmps70, List.length_cons, List.length_nil, Nat.reduceAdd, Nat.reduceSub, List.replicate_succ, List.replicate_zero, List.cons_append, List.nil_append] at S
  refine c_seq ?_; refine c_region ?_
  refine sa S ?_; clear S; intro b2 a w S
  refine sa S ?_; clear S; intro b3 a w S
  refine sa S ?_; clear S; intro b4 a w S
  refine wl_nil ?_; refine xtn ?_; refine c_seq ?_; refine c_region ?_; refine sq S ?_; clear S; intro a S
  refine snew S (readR_c bs p bs.length c _ rfl hl (S.gl0 p)) ?_; clear S; rintro _ a w - ⟨rd, p1, c1, rfl, hh, hnw⟩ hS -
  have S := hS (both (rdI rd ⟨p1, c1, bs, 0⟩) (Wk.row 5 1 p1 bs.length c1 (encL bs))) hh hnw
  clear hS
  replace S := S.ofBoth
  have hc1 := own_le (S.row p1 bs.length)
  replace S := (S.front (Wk.row 5 1 p1 bs.length c1 (encL bs))).rowToGl p1 bs (e := 5) (sz := 1) (n := bs.length) (c := c1) (fun _ _ _ _ => trivial)
  refine sq S ?_; clear S; intro a S
  refine sa S ?_; clear S; intro b9 a w S
  refine sq S ?_; clear S; intro a S; refine wl_nil ?_; refine xtn ?_; refine c_seq ?_; refine c_region ?_; refine sq S ?_; clear S; intro a S; refine sdef S ?_; clear S; intro a S; refine wl_nil ?_; refine xtn ?_; refine c_seq ?_; refine c_region ?_; refine sq S ?_; clear S; intro a S
  replace S := ((S.front (rdI rd ⟨p1, c1, bs, 0⟩)).front (tmI b9 rd 1200)).toBoth
  refine sitMP (rtI b9 rd ((1200 : Nat) : Int) ⟨p1, c1, bs, 0⟩) S (rterm_c0 61 60 b9 rd 1200 ⟨p1, c1, bs, 0⟩ (restOf _ (rtI b9 rd ((1200 : Nat) : Int) ⟨p1, c1, bs, 0⟩)) w (by decide) (by decide) (by decide) rfl hc1 hl (S.restOk _) (S.it (rtI b9 rd ((1200 : Nat) : Int) ⟨p1, c1, bs, 0⟩)) ((S.mem.fact (GlF p1 bs)).split (rtI b9 rd ((1200 : Nat) : Int) ⟨p1, c1, bs, 0⟩))) rfl (fun ch w' hx hS => ?_) ?_
  · obtain ⟨e, rfl, he⟩ := hx
    have S := hS (bs' := _)
    refine tdec_pan b2 b3 b4 _ _ _ _ _ _ _ e S.defers (by rw [S.slots]; rfl) (by rw [S.slots]; rfl) (by rw [S.slots]; rfl) (S.sub [Wk.box b4 26 [.int .i64 0], Wk.box b3 3 [.int .i64 0], Wk.box b2 43 zTm] []).wd (fun w' ha => ⟨_, rfl, ha, zeroL, 0, e, rfl, fun _ _ => zeroL_in _, .inr ⟨he, rfl, decT_err _ _ _ _ he⟩⟩)
  clear S; rintro _ a w ⟨z, lf, r6, rfl, hde, -, hw6, hsub6, hh6, hz⟩ hS
  have S := hS (rtI b9 rd (lf : Nat) r6) [LtF z] hh6 (fun k h => .inl h) (by simp only [List.mem_cons, List.not_mem_nil, or_false]; rintro Φ rfl; exact hz)
  clear hS
  replace S := S.ofBoth
  refine sw S ?_; clear S; intro a w S; refine wl_nil ?_; refine xtn ?_; refine c_seq ?_
  refine' c_drawT0 (.q 1 (.q 2 (.q 3 (.q 4 (.q 5 (.q 6 (.b2 0 7 (.l 7 (.q 8 (.l 9 (.l 10 (.l 11 (.e)))))) (.q 8 (.l 0 (.l 9 (.l 10 (.l 11 (.e))))))))))))) [b2, b3, b4] S ?_ ?_
  rotate_left 3
  · intro w S
    (iterate 6 (refine tq S ?_; clear S; intro a S))
    refine tb2 ?_ ?_
    · refine sq S ?_; clear S; intro a S; refine te S ?_; refine tl ?_; refine sc S ?_; clear S; intro a w S; refine te S ?_; refine tq S ?_; clear S; intro a S
      rw [w64 ((bs.length : Int) - (r6.bs.length : Int)) (by have := hsub6.len; have : r6.bs.length ≤ bs.length := this; omega) (by omega)] at S
      refine tl ?_; refine sw S ?_; clear S; intro a w S; refine te S ?_; refine tl ?_; refine sw S ?_; clear S; intro a w S; refine te S ?_; refine tl ?_; refine sw S ?_; clear S; intro a w S; refine te S ?_; refine tn ?_
      exact S
    · refine sc S ?_; clear S; intro a w S; refine te S ?_; refine tq S ?_; clear S; intro a S
      rw [w64 ((bs.length : Int) - (r6.bs.length : Int)) (by have := hsub6.len; have : r6.bs.length ≤ bs.length := this; omega) (by omega)] at S
      refine tl ?_; refine sq S ?_; clear S; intro a S; refine te S ?_; refine tl ?_; refine sw S ?_; clear S; intro a w S; refine te S ?_; refine tl ?_; refine sw S ?_; clear S; intro a w S; refine te S ?_; refine tl ?_; refine sw S ?_; clear S; intro a w S; refine te S ?_; refine tn ?_
      exact S
  intro  a w S
  refine xtn ?_; refine c_ret ?_
  have hlat := S.laterT (M := M) z
  refine leaveRet S.defers (tcatch_ret _ _ _ w) (fun w' hw' => ⟨_, res3 S.slots (S.wd.step hw').held, _, rfl, (S.wd.step hw').agree, z, (bs.length : Int) - (r6.bs.length : Int), 0, rfl, ?_, .inl ⟨lf, r6.bs, hde, rfl, rfl⟩⟩)
  exact hlat.later (hw'.mono fun _ _ h => h.elim)
theorem gl_cut {bs : List UInt8} {p : Option Addr} {c lo k : Nat} {w : World} (h : GlF p bs w) (hc : bs.length ≤ c) : GlF (if c = lo then p else p.map (·.add (lo * 1))) ((bs.drop lo).take k) w := (h.drop (sz := 1) lo hc).take k
def RDecR (M : Nat → Prop) (bs : List UInt8) (i m left : Nat) (v : Value) (w : World) : Prop := ∃ (z : LTerm) (j k : Nat) (e : Int), v = .tuple ⟨[vL z, .int .i64 (j : Nat), .int .i64 (k : Nat), .int .i64 e]⟩ ∧ DecAt bs i m left z.t j k e ∧ Stable M w (LtF z)
set_option maxHeartbeats 4000000 in
theorem rdec_c (N : Nat) : ∀ (m left i : Nat) (bs : List UInt8) (p : Option Addr) (n c : Nat) (M : Nat → Prop) (w0 : World), m < N → m ≤ 60 → left ≤ 1200 → bs.length = n → n ≤ 10000000 → n ≤ c → i ≤ n → (∀ k, M k → k < w0.heap.size) → Stable M w0 (GlF p bs) →
    Ret Tryz.prog 83 [.slice p n c, .int .i64 (i : Nat), .int .i64 (left : Nat), .int .i64 (m : Nat)] w0 (fun _ => False) fun v w' => RDecR M bs i m left v w' := by
  induction N with
  | zero => intro m _ _ _ _ _ _ _ _ h; exact absurd h (Nat.not_lt_zero _)
  | succ N ih =>
  intro m left i bs p n c M w0 hmN hm hlf hn hl hc hi hM hf
  subst hn
  refine enter Tryz.func83 rfl rfl (Wd.beginM (M := M) (fs := [GlF p bs]) hM (by simpa using hf)) (fun a S => ?_)
  simp only [Tryz.ntmps83, List.length_cons, List.length_nil, Nat.reduceAdd, Nat.reduceSub, List.replicate_succ, List.replicate_zero, List.cons_append, List.nil_append] at S
  refine c_seq ?_; refine c_region ?_
  refine sa S ?_; clear S; intro b8 a w S
  (iterate 3 (refine sq S ?_; clear S; intro a S)); refine wl_nil ?_; refine xtn ?_; refine c_seq ?_; refine c_region ?_; refine sq S ?_; clear S; intro a S
  refine sa S ?_; clear S; intro b12 a w S
  refine sw S ?_; clear S; intro a w S; refine wl_nil ?_; refine xtn ?_; (iterate 2 (refine c_seq ?_)); refine c_region ?_; (iterate 4 (refine sq S ?_; clear S; intro a S)); refine wl_nil ?_; refine xtn ?_
  refine c_cond S (fun h2 => ?_) (fun h2 => ?_)
  · refine c_seq ?_; refine c_region ?_; refine sq S ?_; clear S; intro a S; refine sw S ?_; clear S; intro a w S; (iterate 3 (refine sq S ?_; clear S; intro a S)); refine wl_nil ?_; refine xtn ?_; refine c_ret ?_; refine xtr ?_
    have hil : bs.length ≤ i := by simpa using h2
    refine end4 S (fun _ => ⟨Wk.zeroL, 0, 0, 7, rfl, .inr ⟨?_, by decide, rfl, rfl, rfl⟩, fun _ _ => zeroL_in _⟩)
    rw [List.drop_of_length_le hil, decT_nil]
  · refine c_skip ?_; refine xtn ?_; refine c_seq ?_
    have hil : i < bs.length := by simpa using h2
    have hK : KLt i bs.length := ⟨hil⟩
    obtain ⟨kd, hkd⟩ : ∃ kd, kd = (nthG bs i).toNat := ⟨_, rfl⟩
    have hkl : kd < 256 := by rw [hkd]; exact UInt8.toNat_lt _
    obtain ⟨g1, g2, g3, g4, g5⟩ := fields_r (kd : Int)
    refine c_region ?_; (iterate 5 (refine sq S ?_; clear S; intro a S))
    rw [← hkd, w64 (kd : Int) (by omega) (by omega)] at S
    refine sq S ?_; clear S; intro a S
    refine sa S ?_; clear S; intro b13 a w S
    refine sw S ?_; clear S; intro a w S; refine wl_nil ?_; refine xtn ?_; (iterate 2 (refine c_seq ?_)); refine c_region ?_; (iterate 2 (refine sq S ?_; clear S; intro a S)); refine sc S ?_; clear S; intro a w S; (iterate 2 (refine sq S ?_; clear S; intro a S)); (iterate 2 (refine gQ S ?_; clear S; intro a S)); (iterate 2 (refine sq S ?_; clear S; intro a S)); (iterate 2 (refine gQ S ?_; clear S; intro a S))
    refine sq S ?_; clear S; intro a S; refine wl_nil ?_; refine xtn ?_
    refine c_cond S (fun h5 => ?_) (fun h5 => ?_)
    · refine c_seq ?_; refine c_region ?_; refine sq S ?_; clear S; intro a S; refine sw S ?_; clear S; intro a w S; (iterate 3 (refine sq S ?_; clear S; intro a S)); refine wl_nil ?_; refine xtn ?_; refine c_ret ?_; refine xtr ?_
      refine end4 S (fun _ => ⟨Wk.zeroL, 0, 0, 150, rfl, .inr ⟨?_, by decide, rfl, rfl, rfl⟩, fun _ _ => zeroL_in _⟩)
      rw [nthG_drop hil, decT_cons, ← hkd, if_pos]
      simp only [Bool.or_eq_true, decide_eq_true_eq] at h5
      rcases h5 with (h | h) | h
      · exact .inr (.inl (g1.1 h))
      · exact .inr (.inr (by omega))
      · exact .inl (by omega)
    · refine c_skip ?_; refine xtn ?_; refine c_seq ?_
      simp only [Bool.or_eq_false_iff, decide_eq_false_iff_not] at h5
      have hdec : decT m left (bs.drop i) = decB (decT (m - 1)) left (kd : Int) (bs.drop (i + 1)) := by
        rw [nthG_drop hil, decT_cons, ← hkd, if_neg]
        rintro (h | h | h)
        · omega
        · exact h5.1.1 (g1.2 h)
        · omega
      have hkn := g2 (by omega)
      refine c_region ?_; (iterate 2 (refine sq S ?_; clear S; intro a S))
      rw [w64 ((i : Int) + 1) (by omega) (by omega), show (i : Int) + 1 = ((i + 1 : Nat) : Int) from rfl] at S
      refine sq S ?_; clear S; intro a S; refine wl_nil ?_; refine xtn ?_
      refine c_mrge2 S (fun (i2 : Nat) (s : List UInt8) uu => [(1, .int .i64 (i2 : Nat)), (7, uu 9), (0, uu 10), (0, uu 11), (2, uu 14), (33, uu 48), (0, uu 49), (0, uu 50), (0, uu 51), (0, uu 52), (0, uu 53), (0, uu 54), (0, uu 55), (0, uu 56), (0, uu 57), (0, uu 58), (0, uu 59), (0, uu 60), (0, uu 61), (0, uu 62), (0, uu 63), (0, uu 64), (0, uu 65), (0, uu 66), (0, uu 67), (0, uu 68), (0, uu 69), (0, uu 70), (0, uu 71), (0, uu 72), (0, uu 73), (0, uu 74), (0, uu 75), (0, uu 76), (0, uu 77), (0, uu 78), (0, uu 79), (0, uu 80), (0, uu 81), (0, uu 82), (0, uu 83), (0, uu 84), (0, uu 85)]) (fun (i2 : Nat) (s : List UInt8) => [Wk.box b13 43 [.int .i64 kd, .int .i64 0, .int .i64 0, str s, .slice none 0 0], Wk.box b12 43 zTm, Wk.box b8 43 zTm, ext M]) (fun (i2 : Nat) (s : List UInt8) => [GlF p bs]) (fun (i2 : Nat) (s : List UInt8) => textD (kd : Int) (bs.drop (i + 1)) = .ok (s, bs.drop i2) ∧ i2 ≤ bs.length) ?_ ?_
      · refine c_seq ?_; refine c_region ?_; (iterate 3 (refine sq S ?_; clear S; intro a S)); refine wl_nil ?_; refine xtn ?_
        refine c_cond S (fun h8 => ?_) (fun h8 => ?_)
        · refine c_seq ?_; refine c_seq ?_
          have hf1 : hasF (fieldsOf (kd : Int)) 1 = true := by rw [g3]; exact h8
          refine c_region ?_; (iterate 4 (refine sq S ?_; clear S; intro a S)); refine wl_nil ?_; refine xtn ?_
          refine c_cond S (fun h9 => ?_) (fun h9 => ?_)
          · refine c_seq ?_; refine c_region ?_; refine sq S ?_; clear S; intro a S; refine sw S ?_; clear S; intro a w S; (iterate 3 (refine sq S ?_; clear S; intro a S)); refine wl_nil ?_; refine xtn ?_; refine c_ret ?_; (iterate 2 (refine xtr ?_))
            refine end4 S (fun _ => ⟨Wk.zeroL, 0, 0, 7, rfl, .inr ⟨?_, by decide, rfl, rfl, rfl⟩, fun _ _ => zeroL_in _⟩)
            have : bs.length ≤ i + 1 := by have := of_decide_eq_true h9; omega
            rw [hdec, List.drop_of_length_le this]
            exact decB_text (textD_nil hf1)
          · refine c_skip ?_; refine xtn ?_; refine c_seq ?_
            have hil2 : i + 1 < bs.length := by have := of_decide_eq_false h9; omega
            have hK2 : KLt (i + 1) bs.length := ⟨hil2⟩
            obtain ⟨nn, hnn⟩ : ∃ nn, nn = (nthG bs (i + 1)).toNat := ⟨_, rfl⟩
            have hnl : nn < 256 := by rw [hnn]; exact UInt8.toNat_lt _
            refine c_region ?_; (iterate 5 (refine sq S ?_; clear S; intro a S))
            rw [← hnn, w64 (nn : Int) (by omega) (by omega)] at S
            refine sq S ?_; clear S; intro a S; refine wl_nil ?_; refine xtn ?_; (iterate 2 (refine c_seq ?_)); refine c_region ?_; (iterate 2 (refine sq S ?_; clear S; intro a S)); refine wl_nil ?_; refine xtn ?_
            refine c_cond S (fun h12 => ?_) (fun h12 => ?_)
            · refine c_seq ?_; refine c_region ?_; refine sq S ?_; clear S; intro a S; refine sw S ?_; clear S; intro a w S; (iterate 3 (refine sq S ?_; clear S; intro a S)); refine wl_nil ?_; refine xtn ?_; refine c_ret ?_; (iterate 2 (refine xtr ?_))
              refine end4 S (fun _ => ⟨Wk.zeroL, 0, 0, 150, rfl, .inr ⟨?_, by decide, rfl, rfl, rfl⟩, fun _ _ => zeroL_in _⟩)
              rw [hdec, nthG_drop hil2]
              exact decB_text (textD_long hf1 (by have := of_decide_eq_true h12; omega))
            · refine c_skip ?_; refine xtn ?_; (iterate 2 (refine c_seq ?_)); refine c_region ?_; (iterate 4 (refine sq S ?_; clear S; intro a S))
              rw [w64 ((bs.length : Int) - ((i + 1 : Nat) : Int)) (by omega) (by omega)] at S
              refine sq S ?_; clear S; intro a S
              rw [w64 ((bs.length : Int) - ((i + 1 : Nat) : Int) - 1) (by omega) (by omega)] at S
              (iterate 2 (refine sq S ?_; clear S; intro a S)); refine wl_nil ?_; refine xtn ?_
              refine c_cond S (fun h14 => ?_) (fun h14 => ?_)
              · refine c_seq ?_; refine c_region ?_; refine sq S ?_; clear S; intro a S; refine sw S ?_; clear S; intro a w S; (iterate 3 (refine sq S ?_; clear S; intro a S)); refine wl_nil ?_; refine xtn ?_; refine c_ret ?_; (iterate 2 (refine xtr ?_))
                refine end4 S (fun _ => ⟨Wk.zeroL, 0, 0, 7, rfl, .inr ⟨?_, by decide, rfl, rfl, rfl⟩, fun _ _ => zeroL_in _⟩)
                rw [hdec, nthG_drop hil2]
                have hn64 := of_decide_eq_false h12
                have hsh := of_decide_eq_true h14
                exact decB_text (textD_short hf1 (by omega) (by rw [List.length_drop]; omega))
              · refine c_skip ?_; refine xtn ?_; refine c_seq ?_
                have hn64 := of_decide_eq_false h12
                have hsh := of_decide_eq_false h14
                have hL1 : LeC (i + 2 + nn) c := ⟨by omega⟩
                have hL2 : LeC (i + 2) (i + 2 + nn) := ⟨by omega⟩
                have hLN : LenN ((bs.drop (i + 2)).take nn) (i + 2 + nn - (i + 2)) := ⟨by rw [List.length_take, List.length_drop]; omega⟩
                refine c_region ?_; (iterate 3 (refine sq S ?_; clear S; intro a S))
                rw [w64 (((i + 1 : Nat) : Int) + 1) (by omega) (by omega), show ((i + 1 : Nat) : Int) + 1 = ((i + 2 : Nat) : Int) from rfl] at S
                (iterate 2 (refine sq S ?_; clear S; intro a S))
                rw [w64 (((i + 1 : Nat) : Int) + 1) (by omega) (by omega), show ((i + 1 : Nat) : Int) + 1 = ((i + 2 : Nat) : Int) from rfl] at S
                (iterate 2 (refine sq S ?_; clear S; intro a S))
                rw [w64 (((i + 2 : Nat) : Int) + (nn : Int)) (by omega) (by omega), show ((i + 2 : Nat) : Int) + (nn : Int) = ((i + 2 + nn : Nat) : Int) from by omega] at S
                refine sq S ?_; clear S; intro a S
                replace S := S.add (Φ := SlF (if c = i + 2 then p else p.map (·.add ((i + 2) * 1))) (encL ((bs.drop (i + 2)).take nn))) ((S.mem.fact (GlF p bs)).imp fun _ h => (gl_cut h hc).1)
                (iterate 2 (refine sq S ?_; clear S; intro a S)); refine sw S ?_; clear S; intro a w S; refine wl_nil ?_; refine xtn ?_; refine c_region ?_; (iterate 2 (refine sq S ?_; clear S; intro a S))
                rw [w64 (((i + 1 : Nat) : Int) + 1) (by omega) (by omega), show ((i + 1 : Nat) : Int) + 1 = ((i + 2 : Nat) : Int) from rfl] at S
                (iterate 2 (refine sq S ?_; clear S; intro a S))
                rw [w64 (((i + 2 : Nat) : Int) + (nn : Int)) (by omega) (by omega), show ((i + 2 : Nat) : Int) + (nn : Int) = ((i + 2 + nn : Nat) : Int) from by omega] at S
                refine sq S ?_; clear S; intro a S; refine wl_nil ?_; refine xtn ?_
                refine ⟨i + 2 + nn, (bs.drop (i + 2)).take nn, S.uu, ⟨?_, by omega⟩, S.sub _ _⟩
                rw [nthG_drop hil2, textD_ok hf1 (by omega) (by rw [List.length_drop]; omega), ← hnn, List.drop_drop]
        · refine c_skip ?_; refine xtn ?_
          have hf1 : hasF (fieldsOf (kd : Int)) 1 = false := by rw [g3]; exact h8
          exact ⟨i + 1, [], S.uu, ⟨textD_none hf1, by omega⟩, S.sub _ _⟩
      · clear S; rintro i2 s uu a w ⟨htx, hi2⟩ S
        refine c_mrge2 S (fun (i3 : Nat) (u : Int) uu => [(1, .int .i64 (i3 : Nat)), (7, uu 9), (0, uu 10), (0, uu 11), (74, uu 86), (0, uu 87), (0, uu 88), (0, uu 89), (0, uu 90), (0, uu 91), (0, uu 92), (0, uu 93), (0, uu 94), (0, uu 95), (0, uu 96), (0, uu 97), (0, uu 98), (0, uu 99), (0, uu 100), (0, uu 101), (0, uu 102), (0, uu 103), (0, uu 104), (0, uu 105), (0, uu 106), (0, uu 107), (0, uu 108), (0, uu 109), (0, uu 110)]) (fun (i3 : Nat) (u : Int) => [Wk.box b13 43 [.int .i64 kd, .int .i64 u, .int .i64 0, str s, .slice none 0 0], Wk.box b12 43 zTm, Wk.box b8 43 zTm, ext M]) (fun (i3 : Nat) (u : Int) => [GlF p bs]) (fun (i3 : Nat) (u : Int) => userD (kd : Int) (bs.drop i2) = .ok (u, bs.drop i3) ∧ i3 ≤ bs.length) ?_ ?_
        · refine c_seq ?_; refine c_region ?_; (iterate 2 (refine sq S ?_; clear S; intro a S)); refine sc S ?_; clear S; intro a w S; refine wl_nil ?_; refine xtn ?_
          refine c_cond S (fun h18 => ?_) (fun h18 => ?_)
          · refine c_seq ?_; refine c_seq ?_
            have hf2 : hasF (fieldsOf (kd : Int)) 2 = true := by rw [g4]; exact h18
            refine c_region ?_; (iterate 4 (refine sq S ?_; clear S; intro a S)); refine wl_nil ?_; refine xtn ?_
            refine c_cond S (fun h19 => ?_) (fun h19 => ?_)
            · refine c_seq ?_; refine c_region ?_; refine sq S ?_; clear S; intro a S; refine sw S ?_; clear S; intro a w S; (iterate 3 (refine sq S ?_; clear S; intro a S)); refine wl_nil ?_; refine xtn ?_; refine c_ret ?_; (iterate 2 (refine xtr ?_))
              refine end4 S (fun _ => ⟨Wk.zeroL, 0, 0, 7, rfl, .inr ⟨?_, by decide, rfl, rfl, rfl⟩, fun _ _ => zeroL_in _⟩)
              have : bs.length ≤ i2 := by have := of_decide_eq_true h19; omega
              rw [hdec]
              refine decB_user htx ?_
              rw [List.drop_of_length_le this]
              exact userD_nil hf2
            · refine c_skip ?_; refine xtn ?_; refine c_seq ?_
              have hil3 : i2 < bs.length := by have := of_decide_eq_false h19; omega
              have hK3 : KLt i2 bs.length := ⟨hil3⟩
              obtain ⟨us, hus⟩ : ∃ us, us = (nthG bs i2).toNat := ⟨_, rfl⟩
              have hul : us < 256 := by rw [hus]; exact UInt8.toNat_lt _
              refine c_region ?_; (iterate 5 (refine sq S ?_; clear S; intro a S))
              rw [← hus, w64 (us : Int) (by omega) (by omega)] at S
              refine sq S ?_; clear S; intro a S; refine sw S ?_; clear S; intro a w S; refine wl_nil ?_; refine xtn ?_; (iterate 2 (refine c_seq ?_)); refine c_region ?_; (iterate 4 (refine sq S ?_; clear S; intro a S)); (iterate 3 (refine gQ S ?_; clear S; intro a S)); refine sq S ?_; clear S; intro a S; refine wl_nil ?_; refine xtn ?_
              refine c_cond S (fun h22 => ?_) (fun h22 => ?_)
              · refine c_seq ?_; refine c_region ?_; refine sq S ?_; clear S; intro a S; refine sw S ?_; clear S; intro a w S; (iterate 3 (refine sq S ?_; clear S; intro a S)); refine wl_nil ?_; refine xtn ?_; refine c_ret ?_; (iterate 2 (refine xtr ?_))
                refine end4 S (fun _ => ⟨Wk.zeroL, 0, 0, 150, rfl, .inr ⟨?_, by decide, rfl, rfl, rfl⟩, fun _ _ => zeroL_in _⟩)
                rw [hdec]
                refine decB_user htx ?_
                rw [nthG_drop hil3]
                refine userD_bad hf2 ?_
                simp only [Bool.or_eq_true, decide_eq_true_eq] at h22
                omega
              · refine c_skip ?_; refine xtn ?_; refine c_region ?_; (iterate 2 (refine sq S ?_; clear S; intro a S))
                rw [w64 ((i2 : Int) + 1) (by omega) (by omega), show (i2 : Int) + 1 = ((i2 + 1 : Nat) : Int) from rfl] at S
                refine sq S ?_; clear S; intro a S; refine wl_nil ?_; refine xtn ?_
                simp only [Bool.or_eq_false_iff, decide_eq_false_iff_not] at h22
                refine ⟨i2 + 1, (us : Int), S.uu, ⟨?_, by omega⟩, S.sub _ _⟩
                rw [nthG_drop hil3, userD_ok hf2 (by omega), ← hus]
          · refine c_skip ?_; refine xtn ?_
            have hf2 : hasF (fieldsOf (kd : Int)) 2 = false := by rw [g4]; exact h18
            exact ⟨i2, 0, S.uu, ⟨userD_none hf2, hi2⟩, S.sub _ _⟩
        · clear S; rintro i3 u uu a w ⟨hus, hi3⟩ S
          refine c_mrge2 S (fun (i4 : Nat) (nu : Int) uu => [(1, .int .i64 (i4 : Nat)), (7, uu 9), (0, uu 10), (0, uu 11), (99, uu 111), (0, uu 112), (0, uu 113), (0, uu 114), (0, uu 115), (0, uu 116), (0, uu 117), (0, uu 118), (0, uu 119), (0, uu 120), (0, uu 121), (0, uu 122), (0, uu 123), (0, uu 124), (0, uu 125), (0, uu 126), (0, uu 127), (0, uu 128), (0, uu 129), (0, uu 130), (0, uu 131), (0, uu 132), (0, uu 133), (0, uu 134), (0, uu 135)]) (fun (i4 : Nat) (nu : Int) => [Wk.box b13 43 [.int .i64 kd, .int .i64 u, .int .i64 nu, str s, .slice none 0 0], Wk.box b12 43 zTm, Wk.box b8 43 zTm, ext M]) (fun (i4 : Nat) (nu : Int) => [GlF p bs]) (fun (i4 : Nat) (nu : Int) => numD (kd : Int) (bs.drop i3) = .ok (nu, bs.drop i4) ∧ i4 ≤ bs.length) ?_ ?_
          · refine c_seq ?_; refine c_region ?_; (iterate 2 (refine sq S ?_; clear S; intro a S)); refine sc S ?_; clear S; intro a w S; refine wl_nil ?_; refine xtn ?_
            refine c_cond S (fun h25 => ?_) (fun h25 => ?_)
            · refine c_seq ?_; refine c_seq ?_
              have hf4 : hasF (fieldsOf (kd : Int)) 4 = true := by rw [g5]; exact h25
              refine c_region ?_; (iterate 4 (refine sq S ?_; clear S; intro a S))
              rw [w64 ((bs.length : Int) - (i3 : Nat)) (by omega) (by omega)] at S
              refine sq S ?_; clear S; intro a S; refine wl_nil ?_; refine xtn ?_
              refine c_cond S (fun h26 => ?_) (fun h26 => ?_)
              · refine c_seq ?_; refine c_region ?_; refine sq S ?_; clear S; intro a S; refine sw S ?_; clear S; intro a w S; (iterate 3 (refine sq S ?_; clear S; intro a S)); refine wl_nil ?_; refine xtn ?_; refine c_ret ?_; (iterate 2 (refine xtr ?_))
                refine end4 S (fun _ => ⟨Wk.zeroL, 0, 0, 7, rfl, .inr ⟨?_, by decide, rfl, rfl, rfl⟩, fun _ _ => zeroL_in _⟩)
                rw [hdec]
                refine decB_num htx hus (numD_bad hf4 ?_)
                have := of_decide_eq_true h26
                rw [List.length_drop]; omega
              · refine c_skip ?_; refine xtn ?_; refine c_seq ?_
                have hsh2 := of_decide_eq_false h26
                have hil4 : i3 + 2 ≤ bs.length := by omega
                have hK4 : KLt i3 bs.length := ⟨by omega⟩
                have hK5 : KLt (i3 + 1) bs.length := ⟨by omega⟩
                obtain ⟨a1, ha1⟩ : ∃ a1, a1 = (nthG bs i3).toNat := ⟨_, rfl⟩
                obtain ⟨a2, ha2⟩ : ∃ a2, a2 = (nthG bs (i3 + 1)).toNat := ⟨_, rfl⟩
                have ha1l : a1 < 256 := by rw [ha1]; exact UInt8.toNat_lt _
                have ha2l : a2 < 256 := by rw [ha2]; exact UInt8.toNat_lt _
                refine c_drawD [(0, true), (1, true), (2, true), (3, true), (4, true), (5, true), (6, true), (7, true), (8, true), (9, true), (10, true), (11, true), (12, true), (13, true), (14, false)] [b13] S ?_; clear S; intro w S
                (iterate 5 (refine dq S ?_; clear S; intro a S))
                rw [← ha1, w64 (a1 : Int) (by omega) (by omega)] at S
                refine dq S ?_; clear S; intro a S
                rw [w64 ((a1 : Int) * 256) (by omega) (by omega)] at S
                (iterate 3 (refine dq S ?_; clear S; intro a S))
                rw [w64 ((i3 : Int) + 1) (by omega) (by omega), show (i3 : Int) + 1 = ((i3 + 1 : Nat) : Int) from rfl] at S
                (iterate 3 (refine dq S ?_; clear S; intro a S))
                rw [← ha2, w64 (a2 : Int) (by omega) (by omega)] at S
                refine dq S ?_; clear S; intro a S
                rw [w64 ((a1 : Int) * 256 + (a2 : Int)) (by omega) (by omega)] at S
                refine dq S ?_; clear S; intro a S; refine dl ?_; refine sw S ?_; clear S; intro a w S; refine de S ?_; refine dn ?_; refine xtn ?_; refine c_region ?_; (iterate 2 (refine sq S ?_; clear S; intro a S))
                rw [w64 ((i3 : Int) + 2) (by omega) (by omega), show (i3 : Int) + 2 = ((i3 + 2 : Nat) : Int) from rfl] at S
                refine sq S ?_; clear S; intro a S; refine wl_nil ?_; refine xtn ?_
                refine ⟨i3 + 2, (a1 : Int) * 256 + (a2 : Int), S.uu, ⟨?_, by omega⟩, S.sub _ _⟩
                rw [numD_ok hf4 (by rw [List.length_drop]; omega), List.drop_drop, two_drop hil4, numN2, ← ha1, ← ha2]
                push_cast; rfl
            · refine c_skip ?_; refine xtn ?_
              have hf4 : hasF (fieldsOf (kd : Int)) 4 = false := by rw [g5]; exact h25
              exact ⟨i3, 0, S.uu, ⟨numD_none hf4, hi3⟩, S.sub _ _⟩
          · clear S; rintro i4 nu uu a w ⟨hnu, hi4⟩ S
            refine c_seq ?_; refine c_region ?_; refine sq S ?_; clear S; intro a S; refine wl_nil ?_; refine xtn ?_; (iterate 2 (refine c_seq ?_)); refine c_region ?_; refine sq S ?_; clear S; intro a S; refine wl_nil ?_; refine xtn ?_; refine c_block ?_
            refine c_fore6 S (fun (k : Nat) (zs : List LTerm) (j5 : Nat) (q : Nat) (p5 : Option Addr) (c5 : Nat) uu => [(1, .int .i64 (j5 : Nat)), (7, uu 9), (0, uu 10), (0, uu 11), (3, .int .i64 (q : Nat)), (0, .int .i64 (k : Nat)), (0, uu 17), (0, uu 18), (0, uu 19), (0, uu 20), (115, uu 136), (0, uu 137), (0, uu 138), (0, uu 139), (0, uu 140), (0, uu 141), (0, uu 142), (0, uu 143), (0, uu 144), (0, uu 145), (0, uu 146), (0, uu 147), (0, uu 148), (0, uu 149), (0, uu 150), (0, uu 151), (0, uu 152), (0, uu 153), (0, uu 154), (0, uu 155), (0, uu 156), (0, uu 157), (0, uu 158), (0, uu 159), (0, uu 160), (0, uu 161), (0, uu 162), (0, uu 163), (0, uu 164), (0, uu 165), (0, uu 166), (0, uu 167), (0, uu 168), (0, uu 169)]) (fun (k : Nat) (zs : List LTerm) (j5 : Nat) (q : Nat) (p5 : Option Addr) (c5 : Nat) => [Wk.box b13 43 [.int .i64 kd, .int .i64 u, .int .i64 nu, str s, .slice p5 k c5], Wk.row 43 5 p5 k c5 (encL zs), Wk.box b12 43 zTm, Wk.box b8 43 zTm, ext M]) (fun (k : Nat) (zs : List LTerm) (j5 : Nat) (q : Nat) (p5 : Option Addr) (c5 : Nat) => [AllL zs, GlF p bs]) (fun (k : Nat) (zs : List LTerm) (j5 : Nat) (q : Nat) (p5 : Option Addr) (c5 : Nat) => k = zs.length ∧ k ≤ kidsN (kd : Int) ∧ (1 ≤ q ∧ q ≤ left) ∧ j5 ≤ bs.length ∧ kidsD (decT (m - 1)) (kidsN (kd : Int)) (left - 1) (bs.drop i4) = preD (zs.map LTerm.t) (kidsD (decT (m - 1)) (kidsN (kd : Int) - k) (left - q) (bs.drop j5))) (fun (k : Nat) (zs : List LTerm) (j5 : Nat) (q : Nat) (p5 : Option Addr) (c5 : Nat) => kidsN (kd : Int) - k) (0) ([]) (i4) (1) (none) (0) ?_ S.uu ?_ ?_
            · exact ⟨rfl, Nat.zero_le _, ⟨Nat.le_refl _, by omega⟩, hi4, (preD_nil _).symm⟩
            · replace S := S.addNil 43 5
              replace S := S.add (Φ := AllL []) (fun _ _ _ hx => by cases hx)
              rw [show Wk.row 43 5 none 0 0 [] = Wk.row 43 5 none 0 0 (encL ([] : List LTerm)) from rfl] at S
              exact S.front (Wk.box b13 43 [.int .i64 kd, .int .i64 u, .int .i64 nu, str s, .slice none 0 0])
            · clear S; rintro k zs j5 q p5 c5 uu a w ⟨hkz, hk, hq, hj5, hrel⟩ S
              (iterate 2 (refine c_seq ?_)); refine c_region ?_; (iterate 3 (refine sq S ?_; clear S; intro a S))
              refine sr S (rkids_c (kd : Int) _) ?_; clear S; rintro _ a w rfl S
              refine sq S ?_; clear S; intro a S; refine wl_nil ?_; refine xtn ?_
              refine c_cond S (fun h32 => ?_) (fun h32 => ?_)
              · refine c_skip ?_; refine xtn ?_; refine c_seq ?_; refine c_block ?_; refine c_seq ?_
                have hkl : k < kidsN (kd : Int) := by have := of_decide_eq_true h32; rw [hkn] at this; omega
                have hkN2 := (kidsN_int (kd : Int)).2
                have hkk : kidsN (kd : Int) - k = (kidsN (kd : Int) - (k + 1)) + 1 := by omega
                refine c_region ?_; (iterate 5 (refine sq S ?_; clear S; intro a S))
                rw [w64 ((left : Int) - (q : Int)) (by omega) (by omega), show (left : Int) - (q : Int) = ((left - q : Nat) : Int) from by omega] at S
                (iterate 2 (refine sq S ?_; clear S; intro a S))
                rw [w64 ((m : Int) - 1) (by omega) (by omega), show (m : Int) - 1 = ((m - 1 : Nat) : Int) from by omega] at S
                refine sr S (ih (m - 1) (left - q) j5 bs p bs.length c _ w (by omega) (by omega) (by omega) rfl hl hc hj5 (foots_lt S) (S.mem.fact (GlF p bs))) ?_; clear S; rintro _ a w ⟨z, jj, kk, e, rfl, hda, hzf⟩ S
                replace S := S.add hzf
                (iterate 5 (refine sq S ?_; clear S; intro a S))
                refine sa S ?_; clear S; intro b17 a w S
                refine sw S ?_; clear S; intro a w S; (iterate 3 (refine sq S ?_; clear S; intro a S)); refine wl_nil ?_; refine xtn ?_; (iterate 2 (refine c_seq ?_)); refine c_region ?_; (iterate 2 (refine sq S ?_; clear S; intro a S)); refine wl_nil ?_; refine xtn ?_
                refine c_cond S (fun h35 => ?_) (fun h35 => ?_)
                · refine c_seq ?_; refine c_region ?_; (iterate 2 (refine sq S ?_; clear S; intro a S)); refine sw S ?_; clear S; intro a w S; (iterate 3 (refine sq S ?_; clear S; intro a S)); refine wl_nil ?_; refine xtn ?_; refine c_ret ?_; refine xtr ?_; refine xbr ?_; (iterate 2 (refine xtr ?_)); refine xbr ?_; refine xtr ?_
                  have he : e ≠ 0 := by simpa using h35
                  rcases hda with ⟨h0, -⟩ | ⟨hde, -⟩
                  · exact absurd h0 he
                  refine end4 S (fun _ => ⟨Wk.zeroL, 0, 0, e, rfl, .inr ⟨?_, he, rfl, rfl, rfl⟩, fun _ _ => zeroL_in _⟩)
                  rw [hdec]
                  refine decB_kids htx hus hnu ?_
                  rw [hrel, hkk]
                  exact kidsD_bad _ _ _ _ _ _ hde
                · refine c_skip ?_; refine xtn ?_; refine c_seq ?_
                  have he : e = 0 := by simpa using h35
                  obtain ⟨-, hde, hkq, hjj⟩ := hda.resolve_right (fun h => h.2.1 he)
                  have hA1 : Stable _ _ (AllL zs) := S.wd.facts (AllL zs) (by simp)
                  have hA2 := S.t z
                  replace S := S.add (Φ := AllL (zs ++ [z])) (fun w' hw' x hx => by
                    rcases List.mem_append.1 hx with h | h
                    · exact hA1 w' hw' x h
                    · rw [List.mem_singleton.1 h]; exact hA2 w' hw')
                  refine c_region ?_; (iterate 3 (refine sq S ?_; clear S; intro a S))
                  refine sn S ?_; clear S; intro b163 a w S
                  refine sap S (by simp [maxLen]; omega) (by omega) ?_; clear S; rintro p7 c7 a w - S
                  rw [show encL zs ++ [Value.int .i64 z.kind, .int .i64 z.user, .int .i64 z.num, str z.text, .slice z.p z.kids.length z.cap] = encL (zs ++ [z]) from by rw [encL_append]; rfl] at S
                  refine sq S ?_; clear S; intro a S; refine sw S ?_; clear S; intro a w S; refine wl_nil ?_; refine xtn ?_; refine c_seq ?_; refine c_region ?_; (iterate 2 (refine sq S ?_; clear S; intro a S)); refine wl_nil ?_; refine xtn ?_; refine c_region ?_; (iterate 3 (refine sq S ?_; clear S; intro a S))
                  rw [w64 ((q : Int) + (kk : Int)) (by omega) (by omega), show (q : Int) + (kk : Int) = ((q + kk : Nat) : Int) from by omega] at S
                  refine sq S ?_; clear S; intro a S; refine wl_nil ?_; refine xbn ?_; refine xtn ?_; refine c_region ?_; (iterate 2 (refine sq S ?_; clear S; intro a S))
                  rw [w64 ((k : Int) + 1) (by omega) (by omega), show (k : Int) + 1 = ((k + 1 : Nat) : Int) from rfl] at S
                  refine sq S ?_; clear S; intro a S; refine wl_nil ?_; refine xtn ?_
                  replace S := ((S.front (Wk.row 43 5 p7 (k + 1) c7 (encL (zs ++ [z])))).front (Wk.box b13 43 [.int .i64 kd, .int .i64 u, .int .i64 nu, str s, .slice p7 (k + 1) c7]))
                  refine ⟨k + 1, zs ++ [z], jj, q + kk, p7, c7, S.uu, ⟨by simp [hkz], hkl, ⟨by omega, by omega⟩, hjj, ?_⟩, S.sub _ _, by omega⟩
                  rw [hrel, hkk, kidsD_step _ _ _ _ _ z.t (left - q - kk) (bs.drop jj) hde, List.map_append, Nat.sub_sub]; rfl
              · refine c_exit ?_; (iterate 2 (refine xte ?_)); refine xbe ?_; refine xtn ?_; refine c_seq ?_; refine c_region ?_; (iterate 3 (refine sq S ?_; clear S; intro a S)); refine sw S ?_; clear S; intro a w S; (iterate 3 (refine sq S ?_; clear S; intro a S)); refine wl_nil ?_; refine xtn ?_; refine c_ret ?_
                have hk2 : kidsN (kd : Int) = k := by have := of_decide_eq_false h32; rw [hkn] at this; omega
                subst hkz
                have hrow := S.row p5 zs.length
                have hall : Stable _ _ (AllL zs) := S.wd.facts (AllL zs) (by simp)
                have hap : ∀ ad, p5 = some ad → ¬ M ad.block := fun ad had hm => St.apart2 S (Wk.row 43 5 p5 zs.length c5 (encL zs)) (ext M) ad.block ⟨ad, had, rfl⟩ hm
                have hkids : Stable M _ (AllL zs) := hall.less fun k _ hm => ⟨ext M, by simp, hm⟩
                have hls := ls_of_own hrow (fun x hx => AllL.get hkids hx) hap
                refine end4 S (fun _ => ⟨.mk kd u nu s p5 c5 zs, j5, q, 0, rfl, .inl ⟨rfl, ?_, hq.2, hj5⟩, fun w' hw' => ?_⟩)
                · rw [hdec, LTerm.t_eq]
                  refine decB_ok htx hus hnu ?_
                  rw [hrel, hk2, Nat.sub_self, kidsD, preD, List.append_nil]; rfl
                · exact LtIn.iff.2 ⟨own_le hrow, own_capT hrow, hls w' hw'⟩
end Go.Proofs.YtdakncgafdnjfaaGreat