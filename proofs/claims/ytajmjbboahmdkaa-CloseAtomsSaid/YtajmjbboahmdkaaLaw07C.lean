/- The law CloseMore. -/
import Derived.Test.YtajmjbboahmdkaaLaw07B
namespace Go.Proofs.Ytajmjbboahmdkaa
open Go Go.Wk
set_option synthInstance.maxSize 100000
set_option synthInstance.maxHeartbeats 400000
set_option maxRecDepth 100000

theorem more_c (xs ys : List LTerm) (t : LTerm) (p1 p2 : Option Addr) (c1 c2 : Nat) (w0 : World) (hx : Stable (fun _ => False) w0 (LsF p1 0 xs)) (hy : Stable (fun _ => False) w0 (LsF p2 0 ys)) (ht : Stable (fun _ => False) w0 (LtF t)) :
    Ret Try.prog 7 [.slice p1 xs.length c1, .slice p2 ys.length c2, vL t] w0 (fun _ => False) fun v _ => v = .bool true := by
  have hN1 : LenN xs xs.length := ⟨rfl⟩
  have hN2 : LenN ys ys.length := ⟨rfl⟩
  refine enter Try.func7 rfl rfl (Wd.begin (fs := [LsF p1 0 xs, LsF p2 0 ys, LtF t]) (by simp; exact ⟨hx, hy, ht⟩)) (fun a S => ?_)
  simp only [Try.ntmps7, List.length_cons, List.length_nil, Nat.reduceAdd, Nat.reduceSub, List.replicate_succ, List.replicate_zero, List.cons_append, List.nil_append] at S
  refine c_seq ?_
  refine c_region ?_
  refine sa S ?_; clear S; intro b5 a w S
  refine sq S ?_; clear S; intro a S
  refine wl_nil ?_
  refine xtn ?_
  iterate 2 (refine c_seq ?_)
  refine c_region ?_
  refine sr S (wakes7_c w) ?_; clear S; rintro _ a w rfl S
  refine sq S ?_; clear S; intro a S
  rw [show (!true) = false from rfl] at S
  refine wl_nil ?_
  refine xtn ?_
  refine c_condF S ?_
  refine c_skip ?_
  refine xtn ?_
  iterate 2 (refine c_seq ?_)
  refine c_region ?_
  refine sq S ?_; clear S; intro a S
  refine sr S (fine_c xs p1 c1 w (S.mem.fact0 (LsF p1 0 xs))) ?_; clear S; rintro _ a w ⟨f1, rfl, hf1⟩ S
  iterate 2 (refine sq S ?_; clear S; intro a S)
  refine gS S (fun hs1 S => ?_) (fun hs1 S => ?_)
  · refine gF' S ?_; clear S; intro a S
    iterate 2 (refine gF' S ?_; clear S; intro a S)
    iterate 2 (refine sq S ?_; clear S; intro a S)
    iterate 4 (refine gF' S ?_; clear S; intro a S)
    refine sq S ?_; clear S; intro a S
    refine wl_nil ?_
    refine xtn ?_
    refine c_condT S ?_
    refine c_seq ?_
    refine c_region ?_
    refine sq S ?_; clear S; intro a S
    refine wl_nil ?_
    refine xtn ?_
    refine c_ret ?_
    refine xtr ?_
    exact end1 S (fun _ => rfl)
  · refine gT' S ?_
    refine sq S ?_; clear S; intro a S
    refine gT' S ?_
    refine sr S (fine_c ys p2 c2 w (S.mem.fact0 (LsF p2 0 ys))) ?_; clear S; rintro _ a w ⟨f2, rfl, hf2⟩ S
    refine gT' S ?_
    iterate 3 (refine sq S ?_; clear S; intro a S)
    refine gS S (fun hs2 S => ?_) (fun hs2 S => ?_)
    · refine gF' S ?_; clear S; intro a S
      iterate 3 (refine gF' S ?_; clear S; intro a S)
      refine sq S ?_; clear S; intro a S
      refine wl_nil ?_
      refine xtn ?_
      refine c_condT S ?_
      refine c_seq ?_
      refine c_region ?_
      refine sq S ?_; clear S; intro a S
      refine wl_nil ?_
      refine xtn ?_
      refine c_ret ?_
      refine xtr ?_
      exact end1 S (fun _ => rfl)
    · refine gT' S ?_
      refine sq S ?_; clear S; intro a S
      refine gT' S ?_
      refine sn S ?_; clear S; intro b30 a w S
      refine gT' S ?_
      have hls := ls_box (ts := [t]) (S.box b30) (fun x hx => by obtain rfl := List.mem_singleton.1 hx; exact S.mem.t0 x)
      refine sr S (fine_c [t] (some ⟨b30, 0, none⟩) 1 w hls) ?_; clear S hls; rintro _ a w ⟨f3, rfl, hf3⟩ S
      refine gT' S ?_
      iterate 2 (refine sq S ?_; clear S; intro a S)
      refine wl_nil ?_
      refine xtn ?_
      refine c_cond S (fun h3 => ?_) (fun h3 => ?_)
      · refine c_seq ?_
        refine c_region ?_
        refine sq S ?_; clear S; intro a S
        refine wl_nil ?_
        refine xtn ?_
        refine c_ret ?_
        refine xtr ?_
        exact end1 S (fun _ => rfl)
      · refine c_skip ?_
        refine xtn ?_
        refine c_seq ?_
        obtain ⟨hlx, hgx, -⟩ := hf1 (by simpa using hs1)
        obtain ⟨hly, hgy, -⟩ := hf2 (by simpa using hs2)
        obtain ⟨-, hgt, -⟩ := hf3 (by simpa using h3)
        have hgt := hgt t (by simp)
        have hgK := good_map hgx
        refine c_region ?_
        iterate 2 (refine sq S ?_; clear S; intro a S)
        have hz := can_der0 (by simp; omega) hgK hgt
        refine sr S (can_cl xs t p1 c1 w (S.mem.fact0 (LsF p1 0 xs)) (S.mem.t0 t)) ?_; clear S; rintro _ a w rfl S
        rw [hz.1, hz.2] at S
        iterate 5 (refine sq S ?_; clear S; intro a S)
        refine wl_nil ?_
        refine xtn ?_
        refine c_seq ?_
        refine c_region ?_
        refine sn S ?_; clear S; intro b40 a w S
        refine sq S ?_; clear S; intro a S
        replace S := S.boxRow b40 5 0 rfl (by omega)
        refine sap S (by simp [maxLen]; omega) (by omega) ?_; clear S; rintro p42 c42 a w - S
        rw [List.nil_append, Nat.zero_add] at S
        refine sq S ?_; clear S; intro a S
        refine sap S (by simp [maxLen]; omega) (by omega) ?_; clear S; rintro p44 c44 a w - S
        rw [← encL_append, ← List.length_append] at S
        refine sq S ?_; clear S; intro a S
        refine wl_nil ?_
        refine xtn ?_
        refine c_seq ?_
        refine c_region ?_
        iterate 2 (refine sq S ?_; clear S; intro a S)
        have hst : ∀ x ∈ xs ++ ys, Stable (fun _ => False) w (LtF x) := fun x hx => by
          rcases List.mem_append.1 hx with hx | hx
          · exact kids_st (S.mem.fact0 (LsF p1 0 xs)) hx
          · exact kids_st (S.mem.fact0 (LsF p2 0 ys)) hx
        have hls := ls_of_own (S.row p44 (xs ++ ys).length) hst (fun _ _ h => h)
        have hz2 := can_der0 (K := (xs ++ ys).map LTerm.t) (by simp; omega) (good_map (fun x hx => (List.mem_append.1 hx).elim (hgx x) (hgy x))) hgt
        refine sr S (can_cl (xs ++ ys) t p44 c44 w hls (S.mem.t0 t)) ?_; clear S hls hst; rintro _ a w rfl S
        rw [hz2.1, hz2.2] at S
        iterate 5 (refine sq S ?_; clear S; intro a S)
        refine wl_nil ?_
        refine xtn ?_
        iterate 2 (refine c_seq ?_)
        refine c_region ?_
        iterate 3 (refine sq S ?_; clear S; intro a S)
        iterate 2 (refine gQ S ?_; clear S; intro a S)
        iterate 2 (refine sq S ?_; clear S; intro a S)
        iterate 5 (refine gQ S ?_; clear S; intro a S)
        refine sq S ?_; clear S; intro a S
        refine wl_nil ?_
        refine xtn ?_
        refine c_cond S (fun h8 => ?_) (fun h8 => ?_)
        · refine c_seq ?_
          refine c_region ?_
          refine sq S ?_; clear S; intro a S
          refine wl_nil ?_
          refine xtn ?_
          refine c_ret ?_
          refine xtr ?_
          exfalso
          have hm : derB (xs.map LTerm.t) t.t = true → derB ((xs ++ ys).map LTerm.t) t.t = true := derB_mono fun x hx => .known (by rw [List.map_append]; exact List.mem_append_left _ hx)
          rw [List.map_append] at hm
          cases hb1 : derB (xs.map LTerm.t) t.t <;> cases hb2 : derB (xs.map LTerm.t ++ ys.map LTerm.t) t.t <;> simp_all
        · refine c_skip ?_
          refine xtn ?_
          refine c_seq ?_
          refine c_region ?_
          refine sn S ?_; clear S; intro b64 a w S
          refine sq S ?_; clear S; intro a S
          replace S := S.boxRow b64 5 0 rfl (by omega)
          refine sap S (by simp [maxLen]; omega) (by omega) ?_; clear S; rintro p66 c66 a w - S
          rw [List.nil_append, Nat.zero_add] at S
          refine sq S ?_; clear S; intro a S
          refine wl_nil ?_
          refine xtn ?_
          iterate 2 (refine c_seq ?_)
          refine c_region ?_
          iterate 3 (refine sq S ?_; clear S; intro a S)
          refine wl_nil ?_
          refine xtn ?_
          refine c_block ?_
          refine c_loop (ι := Nat) (fun k a w => ∃ pw cw ws, k ≤ ys.length ∧ ws.length ≤ k ∧ (∀ x ∈ ws, x ∈ ys ∧ Der (xs.map LTerm.t) x.t) ∧ ∃ uu : Nat → Value,  St w0 (fun _ => False) [] a w ((.slice p1 xs.length c1) :: (.slice p2 ys.length c2) :: uu 2 :: uu 3 :: uu 4 :: (.pointer (some ⟨b5, 0, none⟩)) :: uu 6 :: (.bool (derB (xs.map LTerm.t) t.t)) :: uu 8 :: uu 9 :: uu 10 :: uu 11 :: (.slice pw (xs ++ ws).length cw) :: uu 13 :: uu 14 :: uu 15 :: uu 16 :: uu 17 :: uu 18 :: uu 19 :: uu 20 :: uu 21 :: uu 22 :: uu 23 :: uu 24 :: uu 25 :: uu 26 :: uu 27 :: uu 28 :: uu 29 :: uu 30 :: uu 31 :: uu 32 :: uu 33 :: uu 34 :: uu 35 :: uu 36 :: uu 37 :: uu 38 :: uu 39 :: uu 40 :: uu 41 :: uu 42 :: uu 43 :: uu 44 :: uu 45 :: uu 46 :: uu 47 :: uu 48 :: uu 49 :: uu 50 :: uu 51 :: uu 52 :: uu 53 :: uu 54 :: uu 55 :: uu 56 :: uu 57 :: uu 58 :: uu 59 :: uu 60 :: uu 61 :: uu 62 :: uu 63 :: uu 64 :: uu 65 :: uu 66 :: (.slice p2 ys.length c2) :: (.int .i64 ys.length) :: (.int .i64 (k : Nat)) :: uu 70 :: uu 71 :: uu 72 :: uu 73 :: uu 74 :: uu 75 :: uu 76 :: uu 77 :: uu 78 :: uu 79 :: uu 80 :: uu 81 :: uu 82 :: uu 83 :: uu 84 :: uu 85 :: uu 86 :: uu 87 :: uu 88 :: uu 89 :: uu 90 :: uu 91 :: uu 92 :: uu 93 :: uu 94 :: uu 95 :: uu 96 :: uu 97 :: uu 98 :: uu 99 :: uu 100 :: uu 101 :: []) [Wk.row 37 5 pw (xs ++ ws).length cw (encL (xs ++ ws)), Wk.box b5 37 t.cells] [LsF p1 0 xs, LsF p2 0 ys, LtF t]) (fun k => ys.length - k) 0 ?_ ?_
          · refine ⟨p66, c66, [], Nat.zero_le _, Nat.zero_le _, by simp, S.uu, ?_⟩
            rw [List.append_nil]
            exact S.sub _ _
          · clear S
            rintro k a w ⟨pw, cw, ws, hk, hwk, hws, uu, S⟩
            refine c_seq ?_
            refine c_region ?_
            refine sq S ?_; clear S; intro a S
            refine wl_nil ?_
            refine xtn ?_
            refine c_seq ?_
            refine c_cond S (fun h12 => ?_) (fun h12 => ?_)
            · refine c_skip ?_
              refine xtn ?_
              refine c_seq ?_
              refine c_block ?_
              refine c_seq ?_
              have hkl : k < ys.length := by simp at h12; omega
              have hK : KLt k ys.length := ⟨hkl⟩
              obtain ⟨x, hxd⟩ : ∃ x, x = nthL ys k := ⟨_, rfl⟩
              have hxm : x ∈ ys := by rw [hxd]; exact nth_mem hkl
              refine c_region ?_
              iterate 2 (refine sq S ?_; clear S; intro a S)
              refine sa S ?_; clear S; intro b14 a w S
              refine sw S ?_; clear S; intro a w S
              refine wl_nil ?_
              refine xtn ?_
              refine c_seq ?_
              refine c_region ?_
              iterate 2 (refine sq S ?_; clear S; intro a S)
              have hz3 := can_der0 (by simp; omega) hgK (hgy x hxm)
              refine sr S (can_cl xs (nthL ys k) p1 c1 w (S.mem.fact0 (LsF p1 0 xs)) (S.mem.t0 _)) ?_; clear S; rintro _ a w rfl S
              rw [← hxd, hz3.1, hz3.2] at S
              iterate 5 (refine sq S ?_; clear S; intro a S)
              refine wl_nil ?_
              refine xtn ?_
              refine c_seq ?_
              refine c_region ?_
              iterate 3 (refine sq S ?_; clear S; intro a S)
              refine gQ S ?_; clear S; intro a S
              refine sq S ?_; clear S; intro a S
              refine wl_nil ?_
              refine xtn ?_
              refine c_cond S (fun h15 => ?_) (fun h15 => ?_)
              · refine c_region ?_
                iterate 2 (refine sq S ?_; clear S; intro a S)
                refine sn S ?_; clear S; intro b86 a w S
                refine sap S (by simp [maxLen]; omega) (by simp; omega) ?_; clear S; rintro p87 c87 a w - S
                rw [show encL (xs ++ ws) ++ x.cells = encL (xs ++ (ws ++ [x])) from by rw [← List.append_assoc, encL_append (xs ++ ws) [x], encT_cells], show (xs ++ ws).length + 1 = (xs ++ (ws ++ [x])).length from by simp; omega] at S
                refine sq S ?_; clear S; intro a S
                refine wl_nil ?_
                refine xbn ?_
                refine xtn ?_
                refine c_region ?_
                iterate 2 (refine sq S ?_; clear S; intro a S)
                refine wl_nil ?_
                refine xtn ?_
                have hd : Der (xs.map LTerm.t) x.t := derB_iff.1 (by simpa using h15)
                rw [w64 ((k : Int) + 1) (by omega) (by omega)] at S
                exact ⟨k + 1, ⟨p87, c87, ws ++ [x], hkl, by simp; omega, fun y hy => by
                  rcases List.mem_append.1 hy with hy | hy
                  · exact hws y hy
                  · obtain rfl := List.mem_singleton.1 hy; exact ⟨hxm, hd⟩, S.uu, S.sub _ _⟩, by omega⟩
              · refine c_skip ?_
                refine xbn ?_
                refine xtn ?_
                refine c_region ?_
                iterate 2 (refine sq S ?_; clear S; intro a S)
                refine wl_nil ?_
                refine xtn ?_
                rw [w64 ((k : Int) + 1) (by omega) (by omega)] at S
                exact ⟨k + 1, ⟨pw, cw, ws, hkl, by omega, hws, S.uu, S.sub _ _⟩, by omega⟩
            · refine c_exit ?_
              iterate 2 (refine xte ?_)
              refine xbe ?_
              refine xtn ?_
              refine c_seq ?_
              refine c_region ?_
              iterate 2 (refine sq S ?_; clear S; intro a S)
              have hst : ∀ x ∈ xs ++ ws, Stable (fun _ => False) w (LtF x) := fun x hx => by
                rcases List.mem_append.1 hx with hx | hx
                · exact kids_st (S.mem.fact0 (LsF p1 0 xs)) hx
                · exact kids_st (S.mem.fact0 (LsF p2 0 ys)) (hws x hx).1
              have hls := ls_of_own (S.row pw (xs ++ ws).length) hst (fun _ _ h => h)
              have hz2 := can_der0 (K := (xs ++ ws).map LTerm.t) (by simp; omega) (good_map (fun x hx => (List.mem_append.1 hx).elim (hgx x) (fun h => hgy x (hws x h).1))) hgt
              refine sr S (can_cl (xs ++ ws) t pw cw w hls (S.mem.t0 t)) ?_; clear S hls hst; rintro _ a w rfl S
              rw [hz2.1, hz2.2, List.map_append, derB_same (fun y hy => by obtain ⟨x, hx, rfl⟩ := List.mem_map.1 hy; exact (hws x hx).2)] at S
              iterate 5 (refine sq S ?_; clear S; intro a S)
              refine wl_nil ?_
              refine xtn ?_
              refine c_seq ?_
              refine c_region ?_
              iterate 3 (refine sq S ?_; clear S; intro a S)
              iterate 3 (refine gQ S ?_; clear S; intro a S)
              iterate 2 (refine sq S ?_; clear S; intro a S)
              refine wl_nil ?_
              refine xtn ?_
              refine c_ret ?_
              refine end1 S (fun _ => ?_)
              simp
end Go.Proofs.Ytajmjbboahmdkaa
