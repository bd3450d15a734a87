/- 6: a part of this claim's texts, joined: RefReckonB RefReckonC RowRegress RowBase RowAttack W6 RefReckonE SpoilR LawCansS LawCans. -/
import Derived.Test.YtibkkbknnfehlaaPa5
import Derived.Test.YtibkkbknnfehlaaRows
namespace Go.Proofs.Ytibkkbknnfehlaa
open Go Go.Wk
set_option synthInstance.maxSize 100000
set_option synthInstance.maxHeartbeats 400000
set_option maxRecDepth 100000
theorem encB_rep : ∀ n : Nat, encL (List.replicate n false) = (List.replicate n [Value.bool false]).flatten
  | 0 => rfl
  | n + 1 => by rw [List.replicate_succ, encL_cons, List.replicate_succ, List.flatten_cons, encB_rep n]; rfl
theorem encB_set (cs : List Bool) (i : Nat) (b : Bool) (h : i < cs.length) : (encL cs).take i ++ [Value.bool b] ++ (encL cs).drop (i + [Value.bool b].length) = encL (cs.set i b) := by
  induction cs generalizing i with
  | nil => simp at h
  | cons x xs ih =>
    have e : encL (x :: xs) = .bool x :: encL xs := by rw [encL_cons]; rfl
    cases i with
    | zero => rw [e, List.set_cons_zero, encL_cons]; rfl
    | succ i =>
      have := ih i (by simpa using h)
      rw [e, List.set_cons_succ, encL_cons, ← this]
      simp only [List.take_succ_cons, List.cons_append, List.length_singleton, List.drop_succ_cons]
      rfl
theorem encB_get {cs : List Bool} {i : Nat} {b : Bool} (h : cs[i]? = some b) : (encL cs)[i]? = some (.bool b) := by
  induction cs generalizing i with
  | nil => simp at h
  | cons x xs ih =>
    have e : encL (x :: xs) = .bool x :: encL xs := by rw [encL_cons]; rfl
    rw [e]
    cases i with
    | zero => simp at h; simp [h]
    | succ i => simp only [List.getElem?_cons_succ] at h ⊢; exact ih h
theorem cn_none {l : List Term} {n : Nat} {t : Term} : ¬ cnF l (List.replicate n false) t := fun ⟨i, _, h⟩ => by
  rw [List.getElem?_replicate] at h
  split at h <;> simp at h
theorem cn_nth {l : List Term} (hn : l.Nodup) {cs : List Bool} (hl : cs.length = l.length) {i : Nat} {t : Term} (h : l[i]? = some t) : nthG cs i = true ↔ cnF l cs t := by
  have hi := (List.getElem?_eq_some_iff.1 h).1
  rw [cn_at hn h, nthG_get (by omega)]
  simp
theorem ls_box7 {w : World} {b : Nat} {ts : List LTerm} (hb : w.heap[b]? = some (.cells (ts.flatMap LTerm.cells).toArray 37 (0, 0))) (h : ∀ t ∈ ts, Stable (fun _ => False) w (LtF t)) : Stable (fun _ => False) w (LsF (some ⟨b, 0, none⟩) 0 ts) := fun w' hw' =>
  LsIn.of_block ts (by rw [hw'.blk (Array.getElem?_eq_some_iff.1 hb).1 (fun h => h)]; exact hb) (fun x hx => h x hx w' hw')
set_option maxHeartbeats 4000000 in
theorem set7_c (xs ms : List LTerm) (p pm : Option Addr) (c cm : Nat) (w0 : World) (hxl : xs.length ≤ 501) (hml : ms.length ≤ 501) (hgx : ∀ x ∈ xs, Good x.t) (hgm : ∀ x ∈ ms, Good x.t) (hx : Stable (fun _ => False) w0 (LsF p 0 xs)) (hm : Stable (fun _ => False) w0 (LsF pm 0 ms)) :
    Ret Try.prog 31 [.slice p xs.length c, .slice pm ms.length cm] w0 (fun _ => False) fun v w' => ∃ (q1 q2 q3 : Option Addr) (c1 c2 c3 : Nat) (ys : List LTerm) (cs ps : List Bool), v = .tuple ⟨[.slice q1 ys.length c1, .slice q2 cs.length c2, .slice q3 ps.length c3]⟩ ∧
      Stable (fun _ => False) w' (LsF q1 0 ys) ∧ w'.ownsRow 0 4 1 (.slice q2 cs.length c2) cs.length (encL cs) ∧ (∀ ad, q2 = some ad → w0.heap.size ≤ ad.block) ∧ OccR (xs.map LTerm.t ++ ms.map LTerm.t) (ys.map LTerm.t) ∧ CanR (xs.map LTerm.t) (ys.map LTerm.t) cs ∧ FullB (xs.map LTerm.t) (ys.map LTerm.t) cs ∧ ys.length ≤ 5000000 := by
  refine enter Try.func31 rfl rfl (Wd.begin (fs := [LsF p 0 xs, LsF pm 0 ms, UF w0]) (by simp; exact ⟨hx, hm, fun w' hw' x hx' => hx' w' hw'⟩)) (fun a S => ?_)
  simp only [Try.ntmps31, List.length_cons, List.length_nil, Nat.reduceAdd, Nat.reduceSub, List.replicate_succ, List.replicate_zero, List.cons_append, List.nil_append] at S
  refine c_seq ?_; refine c_region ?_; (iterate 3 (refine sq S ?_; clear S; intro a S)); refine wl_nil ?_; refine xtn ?_; refine c_seq ?_; refine c_region ?_; refine sq S ?_; clear S; intro a S; refine wl_nil ?_; refine xtn ?_; (iterate 2 (refine c_seq ?_)); refine c_region ?_; refine sq S ?_; clear S; intro a S; refine wl_nil ?_; refine xtn ?_; refine c_block ?_
  refine c_fore4 S (fun (k : Nat) (q : Option Addr) (e : Nat) (ys : List LTerm) uu => [(7, .slice q ys.length e), (0, .int .i64 (k : Nat)), (11, uu 20), (0, uu 21), (0, uu 22), (0, uu 23), (0, uu 24), (0, uu 25), (0, uu 26), (0, uu 27), (0, uu 28), (0, uu 29), (0, uu 30), (0, uu 31)]) (fun (k : Nat) (q : Option Addr) (e : Nat) (ys : List LTerm) => [Wk.row 37 5 q ys.length e (encL ys)]) (fun (k : Nat) (q : Option Addr) (e : Nat) (ys : List LTerm) => [LsF p 0 xs, LsF pm 0 ms, UF w0]) (fun (k : Nat) (q : Option Addr) (e : Nat) (ys : List LTerm) => k ≤ xs.length ∧ OccR ((xs.take k).map LTerm.t) (ys.map LTerm.t) ∧ ys.length ≤ 2400 * k ∧ ∀ y ∈ ys, Stable (fun _ => False) w0 (LtF y)) (fun (k : Nat) (q : Option Addr) (e : Nat) (ys : List LTerm) => xs.length - k) (0) (none) (0) ([]) ?_ S.uu ?_ ?_
  · exact ⟨Nat.zero_le _, OccR.nil, Nat.zero_le _, nofun⟩
  · replace S := S.addNil 37 5
    rw [show Wk.row 37 5 none 0 0 [] = Wk.row 37 5 none 0 0 (encL ([] : List LTerm)) from rfl] at S
    exact S.sub _ _
  · clear S; rintro k q e ys uu a w ⟨hk, hocc, hyl, hys⟩ S
    (iterate 2 (refine c_seq ?_)); refine c_region ?_; (iterate 4 (refine sq S ?_; clear S; intro a S)); refine wl_nil ?_; refine xtn ?_
    refine c_cond S (fun h3 => ?_) (fun h3 => ?_)
    · refine c_skip ?_; refine xtn ?_; refine c_seq ?_; refine c_block ?_
      have hkk : k < xs.length := by have := of_decide_eq_true h3; omega
      have hK : KLt k xs.length := ⟨hkk⟩
      have hgk := hgx _ (nth_mem hkk)
      have hle := good_le hgk
      refine c_region ?_; (iterate 5 (refine sq S ?_; clear S; intro a S))
      refine srg q ys.length S (with_c _ w0 ys (nthL xs k) q e w (Nat.le_refl _) hgk (by omega) (S.row q ys.length) hys (kids_st hx (nth_mem hkk)) (S.rowFact q ys.length (Φ := UF w0) (by simp))) ?_; clear S; rintro _ a w ⟨q2, e2, zs, rfl, hown2, hnew2, hw2, hl2, hz2⟩ hS
      have S := hS _ hown2 hnew2
      clear hS
      refine sq S ?_; clear S; intro a S; refine wl_nil ?_; refine xbn ?_; refine xtn ?_; refine c_region ?_; (iterate 3 (refine sq S ?_; clear S; intro a S)); refine wl_nil ?_; refine xtn ?_
      rw [w64 ((k : Int) + 1) (by omega) (by omega)] at S
      exact ⟨k + 1, q2, e2, zs, S.uu, ⟨hkk, by rw [take_map_succ _ _ hkk]; exact hocc.more hw2, by omega, hz2⟩, S.sub _ _, by omega⟩
    · refine c_exit ?_; (iterate 2 (refine xte ?_)); refine xbe ?_; refine xtn ?_; (iterate 2 (refine c_seq ?_)); refine c_region ?_; refine sq S ?_; clear S; intro a S; refine wl_nil ?_; refine xtn ?_; refine c_block ?_
      refine c_fore4 S (fun (k2 : Nat) (q : Option Addr) (e : Nat) (zs : List LTerm) uu => [(7, .slice q zs.length e), (1, .int .i64 (k2 : Nat)), (22, uu 32), (0, uu 33), (0, uu 34), (0, uu 35), (0, uu 36), (0, uu 37), (0, uu 38), (0, uu 39), (0, uu 40), (0, uu 41), (0, uu 42), (0, uu 43)]) (fun (k2 : Nat) (q : Option Addr) (e : Nat) (zs : List LTerm) => [Wk.row 37 5 q zs.length e (encL zs)]) (fun (k2 : Nat) (q : Option Addr) (e : Nat) (zs : List LTerm) => [LsF p 0 xs, LsF pm 0 ms, UF w0]) (fun (k2 : Nat) (q : Option Addr) (e : Nat) (zs : List LTerm) => k2 ≤ ms.length ∧ OccR (xs.map LTerm.t ++ (ms.take k2).map LTerm.t) (zs.map LTerm.t) ∧ zs.length ≤ 2400 * (xs.length + k2) ∧ ∀ y ∈ zs, Stable (fun _ => False) w0 (LtF y)) (fun (k2 : Nat) (q : Option Addr) (e : Nat) (zs : List LTerm) => ms.length - k2) (0) (q) (e) (ys) ?_ S.uu ?_ ?_
      · have hke : k = xs.length := by have := of_decide_eq_false h3; omega
        subst hke
        rw [List.take_length] at hocc
        exact ⟨Nat.zero_le _, by simpa using hocc, by omega, hys⟩
      · first | exact S | exact S.sub _ _
      · clear S; rintro k2 q e zs uu a w ⟨hk2, hocc2, hzl, hzs⟩ S
        (iterate 2 (refine c_seq ?_)); refine c_region ?_; (iterate 4 (refine sq S ?_; clear S; intro a S)); refine wl_nil ?_; refine xtn ?_
        refine c_cond S (fun h7 => ?_) (fun h7 => ?_)
        · refine c_skip ?_; refine xtn ?_; refine c_seq ?_; refine c_block ?_
          have hkk : k2 < ms.length := by have := of_decide_eq_true h7; omega
          have hK : KLt k2 ms.length := ⟨hkk⟩
          have hgk := hgm _ (nth_mem hkk)
          have hle := good_le hgk
          refine c_region ?_; (iterate 5 (refine sq S ?_; clear S; intro a S))
          refine srg q zs.length S (with_c _ w0 zs (nthL ms k2) q e w (Nat.le_refl _) hgk (by omega) (S.row q zs.length) hzs (kids_st hm (nth_mem hkk)) (S.rowFact q zs.length (Φ := UF w0) (by simp))) ?_; clear S; rintro _ a w ⟨q2, e2, vs, rfl, hown2, hnew2, hw2, hl2, hz2⟩ hS
          have S := hS _ hown2 hnew2
          clear hS
          refine sq S ?_; clear S; intro a S; refine wl_nil ?_; refine xbn ?_; refine xtn ?_; refine c_region ?_; (iterate 3 (refine sq S ?_; clear S; intro a S)); refine wl_nil ?_; refine xtn ?_
          rw [w64 ((k2 : Int) + 1) (by omega) (by omega)] at S
          exact ⟨k2 + 1, q2, e2, vs, S.uu, ⟨hkk, by rw [take_map_succ _ _ hkk, ← List.append_assoc]; exact hocc2.more hw2, by omega, hz2⟩, S.sub _ _, by omega⟩
        · refine c_exit ?_; (iterate 2 (refine xte ?_)); refine xbe ?_; refine xtn ?_; refine c_seq ?_
          have hke : k2 = ms.length := by have := of_decide_eq_false h7; omega
          subst hke
          rw [List.take_length] at hocc2
          have hz5 : zs.length ≤ 2500000 := by omega
          have hlm : (zs.map LTerm.t).length = zs.length := List.length_map _
          refine c_region ?_; (iterate 2 (refine sq S ?_; clear S; intro a S))
          refine smk zs.length S rfl rfl (by omega) (by simp only [maxLen]; omega) ?_; clear S; intro g a w S
          rw [show (List.replicate zs.length [Value.bool false]).flatten = encL (List.replicate zs.length false) from (encB_rep _).symm] at S
          refine sq S ?_; clear S; intro a S; refine wl_nil ?_; refine xtn ?_; refine c_seq ?_; refine c_region ?_; (iterate 2 (refine sq S ?_; clear S; intro a S))
          refine smk zs.length S rfl rfl (by omega) (by simp only [maxLen]; omega) ?_; clear S; intro g2 a w S
          rw [show (List.replicate zs.length [Value.bool false]).flatten = encL (List.replicate zs.length false) from (encB_rep _).symm] at S
          refine sq S ?_; clear S; intro a S; refine wl_nil ?_; refine xtn ?_; (iterate 2 (refine c_seq ?_)); refine c_region ?_; refine sq S ?_; clear S; intro a S; refine wl_nil ?_; refine xtn ?_; refine c_block ?_
          refine c_fore3 S (fun (k3 : Nat) (cs : List Bool) (ps : List Bool) uu => [(12, .int .i64 (k3 : Nat)), (37, uu 50), (0, uu 51), (0, uu 52), (0, uu 53), (0, uu 54), (0, uu 55), (0, uu 56), (0, uu 57), (0, uu 58), (0, uu 59), (0, uu 60), (0, uu 61), (0, uu 62), (0, uu 63), (0, uu 64), (0, uu 65), (0, uu 66), (0, uu 67), (0, uu 68), (0, uu 69), (0, uu 70), (0, uu 71)]) (fun (k3 : Nat) (cs : List Bool) (ps : List Bool) => [Wk.row 4 1 (some ⟨g2, 0, none⟩) zs.length zs.length (encL ps), Wk.row 4 1 (some ⟨g, 0, none⟩) zs.length zs.length (encL cs), Wk.row 37 5 q zs.length e (encL zs)]) (fun (k3 : Nat) (cs : List Bool) (ps : List Bool) => [LsF p 0 xs, LsF pm 0 ms, UF w0]) (fun (k3 : Nat) (cs : List Bool) (ps : List Bool) => k3 ≤ xs.length ∧ cs.length = zs.length ∧ ps.length = zs.length ∧ ∀ t, cnF (zs.map LTerm.t) cs t ↔ t ∈ (xs.take k3).map LTerm.t) (fun (k3 : Nat) (cs : List Bool) (ps : List Bool) => xs.length - k3) (0) (List.replicate zs.length false) (List.replicate zs.length false) ?_ S.uu ?_ ?_
          · exact ⟨Nat.zero_le _, by simp, by simp, fun t => ⟨fun h => absurd h cn_none, fun h => by simp at h⟩⟩
          · first | exact S | exact S.sub _ _
          · clear S; rintro k3 cs ps uu a w ⟨hk3, hcl, hpl, hcn⟩ S
            (iterate 2 (refine c_seq ?_)); refine c_region ?_; (iterate 4 (refine sq S ?_; clear S; intro a S)); refine wl_nil ?_; refine xtn ?_
            refine c_cond S (fun h13 => ?_) (fun h13 => ?_)
            · refine c_skip ?_; refine xtn ?_; refine c_seq ?_; refine c_block ?_; refine c_seq ?_
              have hkk : k3 < xs.length := by have := of_decide_eq_true h13; omega
              have hK : KLt k3 xs.length := ⟨hkk⟩
              have hmem := nth_mem hkk
              obtain ⟨i, hi, hzi⟩ := hasI_in (hocc2.has _ (List.mem_append_left _ (List.mem_map.2 ⟨_, hmem, rfl⟩)))
              have hil : i < zs.length := by have := (List.getElem?_eq_some_iff.1 hzi).1; simpa using this
              have hKi : KLt i zs.length := ⟨hil⟩
              refine c_region ?_; (iterate 6 (refine sq S ?_; clear S; intro a S))
              refine sr S (has7_c zs (nthL xs k3) q e _ (by omega) (ls_of_own (S.row q zs.length) (fun x hx => uf_less (S.mem.fact0 (UF w0)) (hzs x hx)) (fun _ _ h => h)) (S.t0 _)) ?_; clear S; rintro _ a w rfl S
              rw [hi] at S
              refine sq S ?_; clear S; intro a S
              rw [show (⟨g, i, none⟩ : Addr) = rAddr (some ⟨g, 0, none⟩) i from by rw [rAddr, Option.getD_some, add_lit]] at S
              refine sws S zs.length (by omega) (by omega) ?_; clear S; intro a w S
              rw [encB_set cs i true (by have := hcl; omega)] at S
              refine wl_nil ?_; refine xtn ?_; refine c_region ?_; (iterate 6 (refine sq S ?_; clear S; intro a S))
              refine sr S (has7_c zs (nthL xs k3) q e _ (by omega) (ls_of_own (S.row q zs.length) (fun x hx => uf_less (S.mem.fact0 (UF w0)) (hzs x hx)) (fun _ _ h => h)) (S.t0 _)) ?_; clear S; rintro _ a w rfl S
              rw [hi] at S
              refine sq S ?_; clear S; intro a S
              rw [show (⟨g2, i, none⟩ : Addr) = rAddr (some ⟨g2, 0, none⟩) i from by rw [rAddr, Option.getD_some, add_lit]] at S
              refine sws S zs.length (by omega) (by omega) ?_; clear S; intro a w S
              rw [encB_set ps i true (by have := hpl; omega)] at S
              refine wl_nil ?_; refine xbn ?_; refine xtn ?_; refine c_region ?_; (iterate 3 (refine sq S ?_; clear S; intro a S)); refine wl_nil ?_; refine xtn ?_
              rw [w64 ((k3 : Int) + 1) (by omega) (by omega)] at S
              refine ⟨k3 + 1, cs.set i true, ps.set i true, S.uu, ⟨hkk, by simpa using hcl, by simpa using hpl, fun t => ?_⟩, S.sub _ _, by omega⟩
              rw [take_map_succ _ _ hkk, List.mem_append, List.mem_singleton, ← hcn t]
              refine ⟨fun h => cn_set_old hzi h, fun h => h.elim (cn_le (LeB.set cs i)) (fun h => ?_)⟩
              rw [h]; exact cn_set hzi (by omega)
            · refine c_exit ?_; (iterate 2 (refine xte ?_)); refine xbe ?_; refine xtn ?_; (iterate 2 (refine c_seq ?_)); refine c_region ?_; refine sq S ?_; clear S; intro a S; refine wl_nil ?_; refine xtn ?_; refine c_block ?_
              refine c_fore3 S (fun (r : Nat) (cs : List Bool) (ps : List Bool) uu => [(13, .int .i64 (r : Nat)), (0, uu 14), (0, uu 15), (0, uu 16), (0, uu 17), (0, uu 18), (0, uu 19), (52, uu 72), (0, uu 73), (0, uu 74), (0, uu 75), (0, uu 76), (0, uu 77), (0, uu 78), (0, uu 79), (0, uu 80), (0, uu 81), (0, uu 82), (0, uu 83), (0, uu 84), (0, uu 85), (0, uu 86), (0, uu 87), (0, uu 88), (0, uu 89), (0, uu 90), (0, uu 91), (0, uu 92), (0, uu 93), (0, uu 94), (0, uu 95), (0, uu 96), (0, uu 97), (0, uu 98), (0, uu 99), (0, uu 100), (0, uu 101), (0, uu 102), (0, uu 103), (0, uu 104), (0, uu 105), (0, uu 106), (0, uu 107), (0, uu 108), (0, uu 109), (0, uu 110), (0, uu 111), (0, uu 112), (0, uu 113), (0, uu 114), (0, uu 115), (0, uu 116), (0, uu 117), (0, uu 118), (0, uu 119), (0, uu 120), (0, uu 121), (0, uu 122), (0, uu 123), (0, uu 124), (0, uu 125), (0, uu 126), (0, uu 127), (0, uu 128), (0, uu 129), (0, uu 130), (0, uu 131), (0, uu 132), (0, uu 133), (0, uu 134), (0, uu 135), (0, uu 136), (0, uu 137), (0, uu 138), (0, uu 139), (0, uu 140), (0, uu 141), (0, uu 142), (0, uu 143), (0, uu 144), (0, uu 145), (0, uu 146), (0, uu 147), (0, uu 148), (0, uu 149), (0, uu 150), (0, uu 151), (0, uu 152), (0, uu 153), (0, uu 154), (0, uu 155), (0, uu 156), (0, uu 157), (0, uu 158), (0, uu 159), (0, uu 160), (0, uu 161), (0, uu 162), (0, uu 163), (0, uu 164), (0, uu 165), (0, uu 166), (0, uu 167), (0, uu 168), (0, uu 169), (0, uu 170), (0, uu 171), (0, uu 172), (0, uu 173), (0, uu 174), (0, uu 175), (0, uu 176), (0, uu 177), (0, uu 178), (0, uu 179), (0, uu 180), (0, uu 181), (0, uu 182), (0, uu 183), (0, uu 184), (0, uu 185), (0, uu 186), (0, uu 187), (0, uu 188), (0, uu 189), (0, uu 190), (0, uu 191), (0, uu 192), (0, uu 193), (0, uu 194), (0, uu 195), (0, uu 196), (0, uu 197), (0, uu 198), (0, uu 199)]) (fun (r : Nat) (cs : List Bool) (ps : List Bool) => [Wk.row 4 1 (some ⟨g2, 0, none⟩) zs.length zs.length (encL ps), Wk.row 4 1 (some ⟨g, 0, none⟩) zs.length zs.length (encL cs), Wk.row 37 5 q zs.length e (encL zs)]) (fun (r : Nat) (cs : List Bool) (ps : List Bool) => [LsF p 0 xs, LsF pm 0 ms, UF w0]) (fun (r : Nat) (cs : List Bool) (ps : List Bool) => r ≤ 2 * zs.length + 1 ∧ ps.length = zs.length ∧ CanR (xs.map LTerm.t) (zs.map LTerm.t) cs ∧ (r ≤ cs.count true ∨ FullB (xs.map LTerm.t) (zs.map LTerm.t) cs)) (fun (r : Nat) (cs : List Bool) (ps : List Bool) => 2 * zs.length + 1 - r) (0) (cs) (ps) ?_ S.uu ?_ ?_
              · have hke : k3 = xs.length := by have := of_decide_eq_false h13; omega
                subst hke
                rw [List.take_length] at hcn
                exact ⟨Nat.zero_le _, hpl, ⟨by omega, fun t h => .known ((hcn t).1 h), fun t h => (hcn t).2 h⟩, .inl (Nat.zero_le _)⟩
              · first | exact S | exact S.sub _ _
              · clear S; rintro r cs ps uu a w ⟨hr, hpl, hcan, hful⟩ S
                (iterate 2 (refine c_seq ?_)); refine c_region ?_; (iterate 4 (refine sq S ?_; clear S; intro a S))
                rw [w64 (2 * (zs.length : Int)) (by omega) (by omega)] at S
                refine sq S ?_; clear S; intro a S; refine wl_nil ?_; refine xtn ?_
                refine c_cond S (fun h18 => ?_) (fun h18 => ?_)
                · refine c_skip ?_; refine xtn ?_; refine c_seq ?_; refine c_block ?_; refine c_seq ?_
                  have hrl : r ≤ 2 * zs.length := by have := of_decide_eq_true h18; omega
                  refine c_region ?_; refine sq S ?_; clear S; intro a S; refine wl_nil ?_; refine xtn ?_; refine c_block ?_
                  refine c_fore3 S (fun (i : Nat) (c0 : List Bool) (ps : List Bool) uu => [(14, .int .i64 (i : Nat)), (0, uu 15), (0, uu 16), (0, uu 17), (0, uu 18), (0, uu 19), (59, uu 79), (0, uu 80), (0, uu 81), (0, uu 82), (0, uu 83), (0, uu 84), (0, uu 85), (0, uu 86), (0, uu 87), (0, uu 88), (0, uu 89), (0, uu 90), (0, uu 91), (0, uu 92), (0, uu 93), (0, uu 94), (0, uu 95), (0, uu 96), (0, uu 97), (0, uu 98), (0, uu 99), (0, uu 100), (0, uu 101), (0, uu 102), (0, uu 103), (0, uu 104), (0, uu 105), (0, uu 106), (0, uu 107), (0, uu 108), (0, uu 109), (0, uu 110), (0, uu 111), (0, uu 112), (0, uu 113), (0, uu 114), (0, uu 115), (0, uu 116), (0, uu 117), (0, uu 118), (0, uu 119), (0, uu 120), (0, uu 121), (0, uu 122), (0, uu 123), (0, uu 124), (0, uu 125), (0, uu 126), (0, uu 127), (0, uu 128), (0, uu 129), (0, uu 130), (0, uu 131), (0, uu 132), (0, uu 133), (0, uu 134), (0, uu 135), (0, uu 136), (0, uu 137), (0, uu 138), (0, uu 139), (0, uu 140), (0, uu 141), (0, uu 142), (0, uu 143), (0, uu 144), (0, uu 145), (0, uu 146), (0, uu 147), (0, uu 148), (0, uu 149), (0, uu 150), (0, uu 151), (0, uu 152), (0, uu 153), (0, uu 154), (0, uu 155), (0, uu 156), (0, uu 157), (0, uu 158), (0, uu 159), (0, uu 160), (0, uu 161), (0, uu 162), (0, uu 163), (0, uu 164), (0, uu 165), (0, uu 166), (0, uu 167), (0, uu 168), (0, uu 169), (0, uu 170), (0, uu 171), (0, uu 172), (0, uu 173), (0, uu 174), (0, uu 175), (0, uu 176), (0, uu 177), (0, uu 178), (0, uu 179), (0, uu 180), (0, uu 181), (0, uu 182), (0, uu 183), (0, uu 184), (0, uu 185), (0, uu 186), (0, uu 187), (0, uu 188), (0, uu 189), (0, uu 190), (0, uu 191), (0, uu 192), (0, uu 193), (0, uu 194), (0, uu 195), (0, uu 196), (0, uu 197), (0, uu 198), (0, uu 199)]) (fun (i : Nat) (c0 : List Bool) (ps : List Bool) => [Wk.row 4 1 (some ⟨g2, 0, none⟩) zs.length zs.length (encL ps), Wk.row 4 1 (some ⟨g, 0, none⟩) zs.length zs.length (encL c0), Wk.row 37 5 q zs.length e (encL zs)]) (fun (i : Nat) (c0 : List Bool) (ps : List Bool) => [LsF p 0 xs, LsF pm 0 ms, UF w0]) (fun (i : Nat) (c0 : List Bool) (ps : List Bool) => i ≤ zs.length ∧ ps.length = zs.length ∧ CanR (xs.map LTerm.t) (zs.map LTerm.t) c0 ∧ LeB cs c0 ∧ ∀ j < i, ∀ t, (zs.map LTerm.t)[j]? = some t → DoneT (cnF (zs.map LTerm.t) cs) (cnF (zs.map LTerm.t) c0) t) (fun (i : Nat) (c0 : List Bool) (ps : List Bool) => zs.length - i) (0) (cs) (ps) ?_ S.uu ?_ ?_
                  · exact ⟨Nat.zero_le _, hpl, hcan, LeB.refl _, fun j hj => absurd hj (Nat.not_lt_zero _)⟩
                  · first | exact S | exact S.sub _ _
                  · clear S; rintro i c0 ps uu a w ⟨hi, hpl2, hcan0, hle0, hdone⟩ S
                    (iterate 2 (refine c_seq ?_)); refine c_region ?_; (iterate 4 (refine sq S ?_; clear S; intro a S)); refine wl_nil ?_; refine xtn ?_
                    refine c_cond S (fun h21 => ?_) (fun h21 => ?_)
                    · refine c_skip ?_; refine xtn ?_; refine c_seq ?_; refine c_block ?_; refine c_seq ?_
                      have hil : i < zs.length := by have := of_decide_eq_true h21; omega
                      have hKi : KLt i zs.length := ⟨hil⟩
                      obtain ⟨x, hxd⟩ : ∃ x, x = nthL zs i := ⟨_, rfl⟩
                      have hxi : zs[i]? = some x := by rw [hxd]; exact nth_get hil
                      have hxt : (zs.map LTerm.t)[i]? = some x.t := by rw [List.getElem?_map, hxi]; rfl
                      have hxm : x.t ∈ zs.map LTerm.t := List.mem_of_getElem? hxt
                      have hxs := hzs x (List.mem_of_getElem? hxi)
                      have hgx2 := hocc2.good _ hxm
                      have hkl := LTerm.len_le hxs
                      have hkin : ∀ y ∈ x.kids, y.t ∈ zs.map LTerm.t := fun y hy => hocc2.kin _ hxm _ (by rw [x.t_eq, kinT]; have h : y.t ∈ x.kids.map LTerm.t := List.mem_map.2 ⟨y, hy, rfl⟩; split; exact List.mem_cons_of_mem _ h; exact h)
                      have hsec : (x.kind = 7 ∨ x.kind = 8) → secretT x.user ∈ zs.map LTerm.t := fun h => hocc2.kin _ hxm _ (by rw [x.t_eq, kinT, if_pos h]; simp)
                      have hcl0 := hcan0.len
                      replace S := S.add (Φ := LtF x) ((S.wd.facts (UF w0) (by simp)).imp fun _ h => h x hxs)
                      refine c_region ?_; (iterate 3 (refine sq S ?_; clear S; intro a S))
                      refine slrA x.cells S zs.length (fun j v hj => encL_at hxi hj) ?_; clear S; intro a S
                      refine sa S ?_; clear S; intro b15 a w S
                      refine sw S ?_; clear S; intro a w S; refine wl_nil ?_; refine xtn ?_
                      refine c_mrge1 S (fun (c1 : List Bool) uu => [(89, uu 89), (0, uu 90), (0, uu 91), (0, uu 92), (0, uu 93), (0, uu 94)]) (fun (c1 : List Bool) => [Wk.box b15 37 x.cells, Wk.row 4 1 (some ⟨g2, 0, none⟩) zs.length zs.length (encL ps), Wk.row 4 1 (some ⟨g, 0, none⟩) zs.length zs.length (encL c1), Wk.row 37 5 q zs.length e (encL zs)]) (fun (c1 : List Bool) => [LtF x, LsF p 0 xs, LsF pm 0 ms, UF w0]) (fun (c1 : List Bool) => CanR (xs.map LTerm.t) (zs.map LTerm.t) c1 ∧ LeB c0 c1 ∧ (x.kind = 1 → cnF (zs.map LTerm.t) c1 x.t)) ?_ ?_
                      · refine c_seq ?_; refine c_region ?_; (iterate 3 (refine sq S ?_; clear S; intro a S)); refine wl_nil ?_; refine xtn ?_
                        refine c_cond S (fun h24 => ?_) (fun h24 => ?_)
                        · refine c_region ?_; (iterate 3 (refine sq S ?_; clear S; intro a S))
                          rw [show (⟨g, i, none⟩ : Addr) = rAddr (some ⟨g, 0, none⟩) i from by rw [rAddr, Option.getD_some, add_lit]] at S
                          refine sws S zs.length (by omega) (by omega) ?_; clear S; intro a w S
                          rw [encB_set c0 i true (by have := hcl0; omega)] at S
                          refine wl_nil ?_; refine xtn ?_
                          have h1k : x.kind = 1 := by simpa using h24
                          have hd : Der (xs.map LTerm.t) x.t := by rw [x.t_eq, h1k]; exact .text
                          exact ⟨_, S.uu, ⟨hcan0.set hxt hd, LeB.set _ _, fun _ => cn_set hxt (by omega)⟩, S.sub _ _⟩
                        · refine c_skip ?_; refine xtn ?_
                          exact ⟨_, S.uu, ⟨hcan0, LeB.refl _, fun h => by simp [h] at h24⟩, S.sub _ _⟩
                      · clear S; rintro c1 uu a w ⟨hcan1, hle1, ht1⟩ S
                        refine c_mrge1 S (fun (c2 : List Bool) uu => [(95, uu 95), (0, uu 96), (0, uu 97), (0, uu 98), (0, uu 99), (0, uu 100), (0, uu 101), (0, uu 102), (0, uu 103), (0, uu 104), (0, uu 105), (0, uu 106), (0, uu 107), (0, uu 108), (0, uu 109), (0, uu 110), (0, uu 111)]) (fun (c2 : List Bool) => [Wk.box b15 37 x.cells, Wk.row 4 1 (some ⟨g2, 0, none⟩) zs.length zs.length (encL ps), Wk.row 4 1 (some ⟨g, 0, none⟩) zs.length zs.length (encL c2), Wk.row 37 5 q zs.length e (encL zs)]) (fun (c2 : List Bool) => [LtF x, LsF p 0 xs, LsF pm 0 ms, UF w0]) (fun (c2 : List Bool) => CanR (xs.map LTerm.t) (zs.map LTerm.t) c2 ∧ LeB c1 c2 ∧ (4 ≤ x.kind → x.kind ≤ 7 → (∀ y ∈ x.kids, cnF (zs.map LTerm.t) c1 y.t) → cnF (zs.map LTerm.t) c2 x.t)) ?_ ?_
                        · refine c_mrge1 S (fun (m1 : Bool) uu => [(95, uu 95), (0, uu 96), (0, uu 97), (0, uu 98), (0, uu 99), (0, uu 100), (0, uu 101), (0, uu 102), (0, uu 103), (0, uu 104), (0, uu 105), (0, uu 106), (0, uu 107), (0, .bool m1)]) (fun (m1 : Bool) => [Wk.box b15 37 x.cells, Wk.row 4 1 (some ⟨g2, 0, none⟩) zs.length zs.length (encL ps), Wk.row 4 1 (some ⟨g, 0, none⟩) zs.length zs.length (encL c1), Wk.row 37 5 q zs.length e (encL zs)]) (fun (m1 : Bool) => [LtF x, LsF p 0 xs, LsF pm 0 ms, UF w0]) (fun (m1 : Bool) => m1 = true ↔ 4 ≤ x.kind ∧ x.kind ≤ 7 ∧ ∀ y ∈ x.kids, cnF (zs.map LTerm.t) c1 y.t) ?_ ?_
                          · have hcl1 := hcan1.len
                            refine c_region ?_; (iterate 4 (refine sq S ?_; clear S; intro a S))
                            refine gS S (fun hs1 S => ?_) (fun hs1 S => ?_)
                            · refine gT S ?_; refine sq S ?_; clear S; intro a S; refine gT S ?_; refine sq S ?_; clear S; intro a S; refine gT S ?_; (iterate 3 (refine sq S ?_; clear S; intro a S))
                              refine gS S (fun hs2 S => ?_) (fun hs2 S => ?_)
                              · refine gT S ?_; refine sq S ?_; clear S; intro a S; refine gT S ?_; refine sq S ?_; clear S; intro a S; refine gT S ?_; refine sq S ?_; clear S; intro a S; refine gT S ?_
                                refine sr S (all7_c zs c1 x q (some ⟨g, 0, none⟩) e zs.length zs.length _ (by omega) rfl (by have := hcan1.len; omega) hocc2.nd hkin (ls_of_own (S.row q zs.length) (fun x hx => uf_less (S.mem.fact0 (UF w0)) (hzs x hx)) (fun _ _ h => h)) (gl_own (S.row (some ⟨g, 0, none⟩) zs.length) (fun _ _ _ _ => trivial) (fun _ _ h => h)) (S.t0 _)) ?_; clear S; rintro _ a w ⟨ball, rfl, hball⟩ S
                                refine sq S ?_; clear S; intro a S; refine wl_nil ?_; refine xtn ?_
                                exact ⟨_, S.uu, by rw [hball]; exact ⟨fun h => ⟨by simpa using hs1, by simpa using hs2, h⟩, fun h => h.2.2⟩, S.sub _ _⟩
                              · refine gF S ?_; clear S; intro a S; (iterate 3 (refine gF S ?_; clear S; intro a S)); refine sq S ?_; clear S; intro a S; refine wl_nil ?_; refine xtn ?_
                                exact ⟨false, S.uu, ⟨nofun, fun h => by simp at hs2; omega⟩, S.sub _ _⟩
                            · refine gF S ?_; clear S; intro a S; (iterate 2 (refine gF S ?_; clear S; intro a S)); (iterate 2 (refine sq S ?_; clear S; intro a S))
                              refine gS S (fun hs2 S => ?_) (fun hs2 S => ?_)
                              · refine gT S ?_; refine sq S ?_; clear S; intro a S; refine gT S ?_; refine sq S ?_; clear S; intro a S; refine gT S ?_; refine sq S ?_; clear S; intro a S; refine gT S ?_
                                refine sr S (all7_c zs c1 x q (some ⟨g, 0, none⟩) e zs.length zs.length _ (by omega) rfl (by have := hcan1.len; omega) hocc2.nd hkin (ls_of_own (S.row q zs.length) (fun x hx => uf_less (S.mem.fact0 (UF w0)) (hzs x hx)) (fun _ _ h => h)) (gl_own (S.row (some ⟨g, 0, none⟩) zs.length) (fun _ _ _ _ => trivial) (fun _ _ h => h)) (S.t0 _)) ?_; clear S; rintro _ a w ⟨ball, rfl, hball⟩ S
                                refine sq S ?_; clear S; intro a S; refine wl_nil ?_; refine xtn ?_
                                exact absurd hs2 (by simp)
                              · refine gF S ?_; clear S; intro a S; (iterate 3 (refine gF S ?_; clear S; intro a S)); refine sq S ?_; clear S; intro a S; refine wl_nil ?_; refine xtn ?_
                                exact ⟨false, S.uu, ⟨nofun, fun h => by simp at hs1; omega⟩, S.sub _ _⟩
                          · clear S; rintro m1 uu a w hm1 S
                            refine c_cond S (fun h26 => ?_) (fun h26 => ?_)
                            · refine c_region ?_; (iterate 3 (refine sq S ?_; clear S; intro a S))
                              rw [show (⟨g, i, none⟩ : Addr) = rAddr (some ⟨g, 0, none⟩) i from by rw [rAddr, Option.getD_some, add_lit]] at S
                              refine sws S zs.length (by omega) (by omega) ?_; clear S; intro a w S
                              rw [encB_set c1 i true (by have := hcan1.len; omega)] at S
                              refine wl_nil ?_; refine xtn ?_
                              obtain ⟨q1, q2, q3⟩ := hm1.1 h26
                              have hd : Der (xs.map LTerm.t) x.t := by
                                rw [x.t_eq]
                                refine .make (by omega) (by omega) (fun e => by omega) fun t ht => ?_
                                obtain ⟨y, hy, rfl⟩ := List.mem_map.1 ht
                                exact hcan1.sound _ (q3 y hy)
                              exact ⟨_, S.uu, ⟨hcan1.set hxt hd, LeB.set _ _, fun _ _ _ => cn_set hxt hcan1.len⟩, S.sub _ _⟩
                            · refine c_skip ?_; refine xtn ?_
                              exact ⟨_, S.uu, ⟨hcan1, LeB.refl _, fun a b d => by rw [hm1.2 ⟨a, b, d⟩] at h26; cases h26⟩, S.sub _ _⟩
                        · clear S; rintro c2 uu a w ⟨hcan2, hle2, ht2⟩ S
                          refine c_mrge1 S (fun (c3 : List Bool) uu => [(112, uu 112), (0, uu 113), (0, uu 114), (0, uu 115), (0, uu 116), (0, uu 117), (0, uu 118), (0, uu 119), (0, uu 120), (0, uu 121), (0, uu 122), (0, uu 123), (0, uu 124), (0, uu 125), (0, uu 126), (0, uu 127), (0, uu 128), (0, uu 129), (0, uu 130), (0, uu 131), (0, uu 132), (0, uu 133)]) (fun (c3 : List Bool) => [Wk.box b15 37 x.cells, Wk.row 4 1 (some ⟨g2, 0, none⟩) zs.length zs.length (encL ps), Wk.row 4 1 (some ⟨g, 0, none⟩) zs.length zs.length (encL c3), Wk.row 37 5 q zs.length e (encL zs)]) (fun (c3 : List Bool) => [LtF x, LsF p 0 xs, LsF pm 0 ms, UF w0]) (fun (c3 : List Bool) => CanR (xs.map LTerm.t) (zs.map LTerm.t) c3 ∧ LeB c2 c3 ∧ (x.kind = 8 → (∀ y ∈ x.kids, cnF (zs.map LTerm.t) c2 y.t) → cnF (zs.map LTerm.t) c2 (secretT x.user) → cnF (zs.map LTerm.t) c3 x.t)) ?_ ?_
                          · refine c_mrge1 S (fun (m2 : Bool) uu => [(112, uu 112), (0, uu 113), (0, uu 114), (0, uu 115), (0, uu 116), (0, uu 117), (0, uu 118), (0, uu 119), (0, uu 120), (0, uu 121), (0, uu 122), (0, uu 123), (0, uu 124), (0, uu 125), (0, uu 126), (0, uu 127), (0, uu 128), (0, uu 129), (0, .bool m2)]) (fun (m2 : Bool) => [Wk.box b15 37 x.cells, Wk.row 4 1 (some ⟨g2, 0, none⟩) zs.length zs.length (encL ps), Wk.row 4 1 (some ⟨g, 0, none⟩) zs.length zs.length (encL c2), Wk.row 37 5 q zs.length e (encL zs)]) (fun (m2 : Bool) => [LtF x, LsF p 0 xs, LsF pm 0 ms, UF w0]) (fun (m2 : Bool) => m2 = true ↔ x.kind = 8 ∧ (∀ y ∈ x.kids, cnF (zs.map LTerm.t) c2 y.t) ∧ cnF (zs.map LTerm.t) c2 (secretT x.user)) ?_ ?_
                            · have hcl2 := hcan2.len
                              refine c_region ?_; (iterate 4 (refine sq S ?_; clear S; intro a S))
                              refine gS S (fun hs1 S => ?_) (fun hs1 S => ?_)
                              · refine gT S ?_; refine sq S ?_; clear S; intro a S; refine gT S ?_; refine sq S ?_; clear S; intro a S; refine gT S ?_; refine sq S ?_; clear S; intro a S; refine gT S ?_
                                refine sr S (all7_c zs c2 x q (some ⟨g, 0, none⟩) e zs.length zs.length _ (by omega) rfl (by have := hcan2.len; omega) hocc2.nd hkin (ls_of_own (S.row q zs.length) (fun x hx => uf_less (S.mem.fact0 (UF w0)) (hzs x hx)) (fun _ _ h => h)) (gl_own (S.row (some ⟨g, 0, none⟩) zs.length) (fun _ _ _ _ => trivial) (fun _ _ h => h)) (S.t0 _)) ?_; clear S; rintro _ a w ⟨ball, rfl, hball⟩ S
                                (iterate 2 (refine sq S ?_; clear S; intro a S))
                                refine gS S (fun hs2 S => ?_) (fun hs2 S => ?_)
                                · refine gT S ?_; refine sq S ?_; clear S; intro a S; refine gT S ?_; refine sq S ?_; clear S; intro a S; refine gT S ?_; refine sq S ?_; clear S; intro a S; refine gT S ?_; refine sq S ?_; clear S; intro a S; refine gT S ?_; refine sq S ?_; clear S; intro a S; refine gT S ?_
                                  have h8 : x.kind = 8 := by
                                    first
                                    | simpa using hs1
                                    | exact absurd hs2 (by simp)
                                  obtain ⟨j, hj, hzj⟩ := hasI_in (hsec (.inr h8))
                                  have hjl : j < zs.length := by have := (List.getElem?_eq_some_iff.1 hzj).1; simpa using this
                                  have hKj : KLt j zs.length := ⟨hjl⟩
                                  refine sr S (has7_c zs (secretL x.user) q e _ (by omega) (ls_of_own (S.row q zs.length) (fun x hx => uf_less (S.mem.fact0 (UF w0)) (hzs x hx)) (fun _ _ h => h)) (secret_st _ _)) ?_; clear S; rintro _ a w rfl S
                                  rw [show (secretL x.user).t = secretT x.user from rfl, hj] at S
                                  refine gT S ?_; refine sq S ?_; clear S; intro a S; refine gT S ?_
                                  rw [show (⟨g, j, none⟩ : Addr) = rAddr (some ⟨g, 0, none⟩) j from by rw [rAddr, Option.getD_some, add_lit]] at S
                                  refine slr1 (.bool (nthG c2 j)) S zs.length (encB_get (nthG_get (by have := hcan2.len; omega))) ?_; clear S; intro a S
                                  refine sq S ?_; clear S; intro a S; refine wl_nil ?_; refine xtn ?_
                                  refine ⟨_, S.uu, ?_, S.sub _ _⟩
                                  rw [cn_nth hocc2.nd hcan2.len hzj]
                                  exact ⟨fun h => ⟨by simpa using hs1, hball.1 hs2, h⟩, fun h => h.2.2⟩
                                · refine gF S ?_; clear S; intro a S; (iterate 7 (refine gF S ?_; clear S; intro a S)); refine sq S ?_; clear S; intro a S; refine wl_nil ?_; refine xtn ?_
                                  exact ⟨false, S.uu, ⟨nofun, fun h => by rw [hball.2 h.2.1] at hs2; cases hs2⟩, S.sub _ _⟩
                              · refine gF S ?_; clear S; intro a S; (iterate 3 (refine gF S ?_; clear S; intro a S)); (iterate 2 (refine sq S ?_; clear S; intro a S))
                                refine gS S (fun hs2 S => ?_) (fun hs2 S => ?_)
                                · refine gT S ?_; refine sq S ?_; clear S; intro a S; refine gT S ?_; refine sq S ?_; clear S; intro a S; refine gT S ?_; refine sq S ?_; clear S; intro a S; refine gT S ?_; refine sq S ?_; clear S; intro a S; refine gT S ?_; refine sq S ?_; clear S; intro a S; refine gT S ?_
                                  have h8 : x.kind = 8 := by
                                    first
                                    | simpa using hs1
                                    | exact absurd hs2 (by simp)
                                  obtain ⟨j, hj, hzj⟩ := hasI_in (hsec (.inr h8))
                                  have hjl : j < zs.length := by have := (List.getElem?_eq_some_iff.1 hzj).1; simpa using this
                                  have hKj : KLt j zs.length := ⟨hjl⟩
                                  refine sr S (has7_c zs (secretL x.user) q e _ (by omega) (ls_of_own (S.row q zs.length) (fun x hx => uf_less (S.mem.fact0 (UF w0)) (hzs x hx)) (fun _ _ h => h)) (secret_st _ _)) ?_; clear S; rintro _ a w rfl S
                                  rw [show (secretL x.user).t = secretT x.user from rfl, hj] at S
                                  refine gT S ?_; refine sq S ?_; clear S; intro a S; refine gT S ?_
                                  rw [show (⟨g, j, none⟩ : Addr) = rAddr (some ⟨g, 0, none⟩) j from by rw [rAddr, Option.getD_some, add_lit]] at S
                                  refine slr1 (.bool (nthG c2 j)) S zs.length (encB_get (nthG_get (by have := hcan2.len; omega))) ?_; clear S; intro a S
                                  refine sq S ?_; clear S; intro a S; refine wl_nil ?_; refine xtn ?_
                                  exact absurd hs2 (by simp)
                                · refine gF S ?_; clear S; intro a S; (iterate 7 (refine gF S ?_; clear S; intro a S)); refine sq S ?_; clear S; intro a S; refine wl_nil ?_; refine xtn ?_
                                  exact ⟨false, S.uu, ⟨nofun, fun h => by simp at hs1; exact absurd h.1 hs1⟩, S.sub _ _⟩
                            · clear S; rintro m2 uu a w hm2 S
                              refine c_cond S (fun h28 => ?_) (fun h28 => ?_)
                              · refine c_region ?_; (iterate 3 (refine sq S ?_; clear S; intro a S))
                                rw [show (⟨g, i, none⟩ : Addr) = rAddr (some ⟨g, 0, none⟩) i from by rw [rAddr, Option.getD_some, add_lit]] at S
                                refine sws S zs.length (by omega) (by omega) ?_; clear S; intro a w S
                                rw [encB_set c2 i true (by have := hcan2.len; omega)] at S
                                refine wl_nil ?_; refine xtn ?_
                                obtain ⟨q1, q2, q3⟩ := hm2.1 h28
                                have hd : Der (xs.map LTerm.t) x.t := by
                                  rw [x.t_eq]
                                  refine .make (by omega) (by omega) (fun e => hcan2.sound _ q3) fun t ht => ?_
                                  obtain ⟨y, hy, rfl⟩ := List.mem_map.1 ht
                                  exact hcan2.sound _ (q2 y hy)
                                exact ⟨_, S.uu, ⟨hcan2.set hxt hd, LeB.set _ _, fun _ _ _ => cn_set hxt hcan2.len⟩, S.sub _ _⟩
                              · refine c_skip ?_; refine xtn ?_
                                exact ⟨_, S.uu, ⟨hcan2, LeB.refl _, fun a b d => by rw [hm2.2 ⟨a, b, d⟩] at h28; cases h28⟩, S.sub _ _⟩
                          · clear S; rintro c3 uu a w ⟨hcan3, hle3, ht3⟩ S
                            refine c_seq ?_
                            have hcl3 := hcan3.len
                            refine c_region ?_; (iterate 4 (refine sq S ?_; clear S; intro a S)); (iterate 3 (refine gQ S ?_; clear S; intro a S)); (iterate 2 (refine sq S ?_; clear S; intro a S)); refine wl_nil ?_; refine xtn ?_; refine c_seq ?_; refine c_region ?_; refine sq S ?_; clear S; intro a S; refine wl_nil ?_; refine xtn ?_
                            refine c_mrge2 S (fun (o2 : Bool) (fst : Nat) uu => [(16, .bool o2), (0, .int .i64 (fst : Nat)), (124, uu 142), (0, uu 143), (0, uu 144), (0, uu 145), (0, uu 146), (0, uu 147), (0, uu 148), (0, uu 149), (0, uu 150), (0, uu 151), (0, uu 152), (0, uu 153), (0, uu 154), (0, uu 155)]) (fun (o2 : Bool) (fst : Nat) => [Wk.box b15 37 x.cells, Wk.row 4 1 (some ⟨g2, 0, none⟩) zs.length zs.length (encL ps), Wk.row 4 1 (some ⟨g, 0, none⟩) zs.length zs.length (encL c3), Wk.row 37 5 q zs.length e (encL zs)]) (fun (o2 : Bool) (fst : Nat) => [LtF x, LsF p 0 xs, LsF pm 0 ms, UF w0]) (fun (o2 : Bool) (fst : Nat) => fst ≤ 1 ∧ (fst = 1 → x.kind = 6) ∧ (o2 = true ↔ x.kind = 4 ∨ x.kind = 8 ∨ (x.kind = 6 ∧ cnF (zs.map LTerm.t) c3 ((x.kids.map LTerm.t).headD Wk.zeroT))) ∧ (o2 = true → x.kind = 6 → fst = 1)) ?_ ?_
                            · refine c_mrge1 S (fun (m3 : Bool) uu => [(16, .bool (decide (x.kind = 4) || decide (x.kind = 8))), (0, .int .i64 0), (124, uu 142), (0, uu 143), (0, uu 144), (0, uu 145), (0, uu 146), (0, uu 147), (0, uu 148), (0, uu 149), (0, uu 150), (0, uu 151), (0, uu 152), (0, uu 153), (0, uu 154), (0, .bool m3)]) (fun (m3 : Bool) => [Wk.box b15 37 x.cells, Wk.row 4 1 (some ⟨g2, 0, none⟩) zs.length zs.length (encL ps), Wk.row 4 1 (some ⟨g, 0, none⟩) zs.length zs.length (encL c3), Wk.row 37 5 q zs.length e (encL zs)]) (fun (m3 : Bool) => [LtF x, LsF p 0 xs, LsF pm 0 ms, UF w0]) (fun (m3 : Bool) => m3 = true ↔ x.kind = 6 ∧ cnF (zs.map LTerm.t) c3 ((x.kids.map LTerm.t).headD Wk.zeroT)) ?_ ?_
                              · refine c_region ?_; (iterate 4 (refine sq S ?_; clear S; intro a S))
                                refine gS S (fun hs1 S => ?_) (fun hs1 S => ?_)
                                · refine gT S ?_; refine sq S ?_; clear S; intro a S; refine gT S ?_; refine sq S ?_; clear S; intro a S; refine gT S ?_; refine sq S ?_; clear S; intro a S; refine gT S ?_; refine sq S ?_; clear S; intro a S; refine gT S ?_
                                  have h6 : x.kind = 6 := by simpa using hs1
                                  have h0 := kids6 hgx2 h6
                                  have hK0 : KLt 0 x.kids.length := ⟨h0⟩
                                  have hmem := nth_mem h0
                                  obtain ⟨j, hj, hzj⟩ := hasI_in (hkin _ hmem)
                                  have hjl : j < zs.length := by have := (List.getElem?_eq_some_iff.1 hzj).1; simpa using this
                                  have hKj : KLt j zs.length := ⟨hjl⟩
                                  refine sq S ?_; clear S; intro a S; refine gT S ?_; refine sq S ?_; clear S; intro a S; refine gT S ?_
                                  refine sr S (has7_c zs (nthL x.kids 0) q e _ (by omega) (ls_of_own (S.row q zs.length) (fun x hx => uf_less (S.mem.fact0 (UF w0)) (hzs x hx)) (fun _ _ h => h)) (S.t0 _)) ?_; clear S; rintro _ a w rfl S
                                  rw [hj] at S
                                  refine gT S ?_; refine sq S ?_; clear S; intro a S; refine gT S ?_
                                  rw [show (⟨g, j, none⟩ : Addr) = rAddr (some ⟨g, 0, none⟩) j from by rw [rAddr, Option.getD_some, add_lit]] at S
                                  refine slr1 (.bool (nthG c3 j)) S zs.length (encB_get (nthG_get (by have := hcan3.len; omega))) ?_; clear S; intro a S
                                  refine sq S ?_; clear S; intro a S; refine wl_nil ?_; refine xtn ?_
                                  refine ⟨_, S.uu, ?_, S.sub _ _⟩
                                  rw [cn_nth hocc2.nd hcan3.len hzj, show (x.kids.map LTerm.t).headD Wk.zeroT = (nthL x.kids 0).t from by cases h : x.kids with | nil => simp [h] at h0 | cons a b => rfl]
                                  exact ⟨fun h => ⟨h6, h⟩, fun h => h.2⟩
                                · refine gF S ?_; clear S; intro a S; (iterate 8 (refine gF S ?_; clear S; intro a S)); refine sq S ?_; clear S; intro a S; refine wl_nil ?_; refine xtn ?_
                                  exact ⟨false, S.uu, ⟨nofun, fun h => by simp at hs1; exact absurd h.1 hs1⟩, S.sub _ _⟩
                              · clear S; rintro m3 uu a w hm3 S
                                refine c_cond S (fun h32 => ?_) (fun h32 => ?_)
                                · refine c_seq ?_; refine c_region ?_; refine sq S ?_; clear S; intro a S; refine wl_nil ?_; refine xtn ?_; refine c_region ?_; refine sq S ?_; clear S; intro a S; refine wl_nil ?_; refine xtn ?_
                                  obtain ⟨q1, q2⟩ := hm3.1 h32
                                  exact ⟨true, 1, S.uu, ⟨by omega, fun _ => q1, ⟨fun _ => .inr (.inr ⟨q1, q2⟩), fun _ => rfl⟩, fun _ _ => rfl⟩, S.sub _ _⟩
                                · refine c_skip ?_; refine xtn ?_
                                  refine ⟨_, 0, S.uu, ⟨by omega, fun h => by omega, ?_, fun h e => ?_⟩, S.sub _ _⟩
                                  · simp only [Bool.or_eq_true, decide_eq_true_eq]
                                    exact ⟨fun h => h.elim .inl (fun h => .inr (.inl h)), fun h => h.elim .inl (fun h => h.elim .inr (fun h => by rw [hm3.2 h] at h32; cases h32))⟩
                                  · simp only [Bool.or_eq_true, decide_eq_true_eq] at h; omega
                            · clear S; rintro o2 fst uu a w ⟨hf1, hf6, ho2, hof⟩ S
                              refine c_mrge1 S (fun (o3 : Bool) uu => [(16, .bool o3), (139, uu 156), (0, uu 157), (0, uu 158), (0, uu 159), (0, uu 160), (0, uu 161), (0, uu 162), (0, uu 163), (0, uu 164), (0, uu 165), (0, uu 166), (0, uu 167), (0, uu 168)]) (fun (o3 : Bool) => [Wk.box b15 37 x.cells, Wk.row 4 1 (some ⟨g2, 0, none⟩) zs.length zs.length (encL ps), Wk.row 4 1 (some ⟨g, 0, none⟩) zs.length zs.length (encL c3), Wk.row 37 5 q zs.length e (encL zs)]) (fun (o3 : Bool) => [LtF x, LsF p 0 xs, LsF pm 0 ms, UF w0]) (fun (o3 : Bool) => o3 = true ↔ o2 = true ∨ (x.kind = 7 ∧ cnF (zs.map LTerm.t) c3 (secretT x.user))) ?_ ?_
                              · refine c_mrge1 S (fun (m4 : Bool) uu => [(156, uu 156), (0, uu 157), (0, uu 158), (0, uu 159), (0, uu 160), (0, uu 161), (0, uu 162), (0, uu 163), (0, uu 164), (0, uu 165), (0, uu 166), (0, uu 167), (0, .bool m4)]) (fun (m4 : Bool) => [Wk.box b15 37 x.cells, Wk.row 4 1 (some ⟨g2, 0, none⟩) zs.length zs.length (encL ps), Wk.row 4 1 (some ⟨g, 0, none⟩) zs.length zs.length (encL c3), Wk.row 37 5 q zs.length e (encL zs)]) (fun (m4 : Bool) => [LtF x, LsF p 0 xs, LsF pm 0 ms, UF w0]) (fun (m4 : Bool) => m4 = true ↔ x.kind = 7 ∧ cnF (zs.map LTerm.t) c3 (secretT x.user)) ?_ ?_
                                · refine c_region ?_; (iterate 4 (refine sq S ?_; clear S; intro a S))
                                  refine gS S (fun hs1 S => ?_) (fun hs1 S => ?_)
                                  · refine gT S ?_; refine sq S ?_; clear S; intro a S; refine gT S ?_; refine sq S ?_; clear S; intro a S; refine gT S ?_; refine sq S ?_; clear S; intro a S; refine gT S ?_; refine sq S ?_; clear S; intro a S; refine gT S ?_; refine sq S ?_; clear S; intro a S; refine gT S ?_
                                    have h7 : x.kind = 7 := by simpa using hs1
                                    obtain ⟨j, hj, hzj⟩ := hasI_in (hsec (.inl h7))
                                    have hjl : j < zs.length := by have := (List.getElem?_eq_some_iff.1 hzj).1; simpa using this
                                    have hKj : KLt j zs.length := ⟨hjl⟩
                                    refine sr S (has7_c zs (secretL x.user) q e _ (by omega) (ls_of_own (S.row q zs.length) (fun x hx => uf_less (S.mem.fact0 (UF w0)) (hzs x hx)) (fun _ _ h => h)) (secret_st _ _)) ?_; clear S; rintro _ a w rfl S
                                    rw [show (secretL x.user).t = secretT x.user from rfl, hj] at S
                                    refine gT S ?_; refine sq S ?_; clear S; intro a S; refine gT S ?_
                                    rw [show (⟨g, j, none⟩ : Addr) = rAddr (some ⟨g, 0, none⟩) j from by rw [rAddr, Option.getD_some, add_lit]] at S
                                    refine slr1 (.bool (nthG c3 j)) S zs.length (encB_get (nthG_get (by have := hcan3.len; omega))) ?_; clear S; intro a S
                                    refine sq S ?_; clear S; intro a S; refine wl_nil ?_; refine xtn ?_
                                    refine ⟨_, S.uu, ?_, S.sub _ _⟩
                                    rw [cn_nth hocc2.nd hcan3.len hzj]
                                    exact ⟨fun h => ⟨h7, h⟩, fun h => h.2⟩
                                  · refine gF S ?_; clear S; intro a S; (iterate 7 (refine gF S ?_; clear S; intro a S)); refine sq S ?_; clear S; intro a S; refine wl_nil ?_; refine xtn ?_
                                    exact ⟨false, S.uu, ⟨nofun, fun h => by simp at hs1; exact absurd h.1 hs1⟩, S.sub _ _⟩
                                · clear S; rintro m4 uu a w hm4 S
                                  refine c_cond S (fun h35 => ?_) (fun h35 => ?_)
                                  · refine c_region ?_; refine sq S ?_; clear S; intro a S; refine wl_nil ?_; refine xtn ?_
                                    exact ⟨true, S.uu, ⟨fun _ => .inr (hm4.1 h35), fun _ => rfl⟩, S.sub _ _⟩
                                  · refine c_skip ?_; refine xtn ?_
                                    exact ⟨_, S.uu, ⟨fun h => .inl h, fun h => h.elim id (fun h => by rw [hm4.2 h] at h35; cases h35)⟩, S.sub _ _⟩
                              · clear S; rintro o3 uu a w ho3 S
                                (iterate 2 (refine c_seq ?_))
                                obtain ⟨hopn, hopn2⟩ := opens_of hf1 hf6 ho2 hof ho3
                                have hturn : ∀ c4, LeB c3 c4 → (∀ y, opnT (cnF (zs.map LTerm.t) c3) x.t y → cnF (zs.map LTerm.t) c3 x.t → cnF (zs.map LTerm.t) c4 y) → ∀ j < i + 1, ∀ t, (zs.map LTerm.t)[j]? = some t → DoneT (cnF (zs.map LTerm.t) cs) (cnF (zs.map LTerm.t) c4) t := fun c4 h4 ho j hj t ht => by
                                  by_cases e : j = i
                                  · subst e
                                    rw [hxt] at ht
                                    injection ht with ht
                                    rw [← ht]
                                    exact turn_of hle0 hle1 hle2 hle3 h4 ht1 ht2 ht3 ho
                                  · exact (hdone j (by omega) t ht).le fun z hz => cn_le (hle1.trans (hle2.trans (hle3.trans h4))) hz
                                have hle03 := hle0.trans (hle1.trans (hle2.trans hle3))
                                refine c_region ?_; (iterate 2 (refine sq S ?_; clear S; intro a S)); refine wl_nil ?_; refine xtn ?_
                                refine c_cond S (fun h37 => ?_) (fun h37 => ?_)
                                · refine c_exit ?_; refine xte ?_; refine xbe ?_; refine xtn ?_; refine c_region ?_; (iterate 3 (refine sq S ?_; clear S; intro a S)); refine wl_nil ?_; refine xtn ?_
                                  rw [w64 ((i : Int) + 1) (by omega) (by omega)] at S
                                  exact ⟨i + 1, c3, ps, S.uu, ⟨hil, hpl2, hcan3, hle03, hturn c3 (LeB.refl _) (fun y hy _ => by rw [(hopn y hy).1] at h37; cases h37)⟩, S.sub _ _, by omega⟩
                                · refine c_skip ?_; refine xtn ?_; refine c_seq ?_; refine c_region ?_; (iterate 2 (refine sq S ?_; clear S; intro a S)); refine wl_nil ?_; refine xtn ?_; refine c_block ?_
                                  refine c_fore3 S (fun (k6 : Nat) (c4 : List Bool) (ps : List Bool) uu => [(18, .int .i64 (k6 : Nat)), (0, uu 19), (152, uu 172), (0, uu 173), (0, uu 174), (0, uu 175), (0, uu 176), (0, uu 177), (0, uu 178), (0, uu 179), (0, uu 180), (0, uu 181), (0, uu 182), (0, uu 183), (0, uu 184), (0, uu 185), (0, uu 186), (0, uu 187), (0, uu 188), (0, uu 189), (0, uu 190), (0, uu 191), (0, uu 192), (0, uu 193), (0, uu 194), (0, uu 195), (0, uu 196), (0, uu 197), (0, uu 198), (0, uu 199)]) (fun (k6 : Nat) (c4 : List Bool) (ps : List Bool) => [Wk.box b15 37 x.cells, Wk.row 4 1 (some ⟨g2, 0, none⟩) zs.length zs.length (encL ps), Wk.row 4 1 (some ⟨g, 0, none⟩) zs.length zs.length (encL c4), Wk.row 37 5 q zs.length e (encL zs)]) (fun (k6 : Nat) (c4 : List Bool) (ps : List Bool) => [LtF x, LsF p 0 xs, LsF pm 0 ms, UF w0]) (fun (k6 : Nat) (c4 : List Bool) (ps : List Bool) => fst ≤ k6 ∧ ps.length = zs.length ∧ CanR (xs.map LTerm.t) (zs.map LTerm.t) c4 ∧ LeB c3 c4 ∧ ∀ j, fst ≤ j → j < k6 → cnF (zs.map LTerm.t) c3 x.t → cnF (zs.map LTerm.t) c4 (nthL x.kids j).t) (fun (k6 : Nat) (c4 : List Bool) (ps : List Bool) => x.kids.length - k6) (fst) (c3) (ps) ?_ S.uu ?_ ?_
                                  · exact ⟨Nat.le_refl _, hpl2, hcan3, LeB.refl _, fun j h1 h2 => by omega⟩
                                  · first | exact S | exact S.sub _ _
                                  · clear S; rintro k6 c4 ps uu a w ⟨hfk, hpl6, hcan4, hle4, hset⟩ S
                                    (iterate 2 (refine c_seq ?_)); refine c_region ?_; (iterate 5 (refine sq S ?_; clear S; intro a S)); refine wl_nil ?_; refine xtn ?_
                                    refine c_cond S (fun h39 => ?_) (fun h39 => ?_)
                                    · refine c_skip ?_; refine xtn ?_; refine c_seq ?_; refine c_block ?_; refine c_seq ?_
                                      have hkk : k6 < x.kids.length := by have := of_decide_eq_true h39; omega
                                      have hK : KLt k6 x.kids.length := ⟨hkk⟩
                                      have hmem := nth_mem hkk
                                      obtain ⟨j, hj, hzj⟩ := hasI_in (hkin _ hmem)
                                      have hjl : j < zs.length := by have := (List.getElem?_eq_some_iff.1 hzj).1; simpa using this
                                      have hKj : KLt j zs.length := ⟨hjl⟩
                                      have ho3t : o3 = true := by simpa using h37
                                      refine c_region ?_; (iterate 6 (refine sq S ?_; clear S; intro a S))
                                      refine sr S (has7_c zs (nthL x.kids k6) q e _ (by omega) (ls_of_own (S.row q zs.length) (fun x hx => uf_less (S.mem.fact0 (UF w0)) (hzs x hx)) (fun _ _ h => h)) (S.t0 _)) ?_; clear S; rintro _ a w rfl S
                                      rw [hj] at S
                                      refine sq S ?_; clear S; intro a S; refine wl_nil ?_; refine xtn ?_
                                      refine c_mrge1 S (fun (c5 : List Bool) uu => [(186, uu 186), (0, uu 187), (0, uu 188), (0, uu 189), (0, uu 190), (0, uu 191), (0, uu 192)]) (fun (c5 : List Bool) => [Wk.box b15 37 x.cells, Wk.row 4 1 (some ⟨g2, 0, none⟩) zs.length zs.length (encL ps), Wk.row 4 1 (some ⟨g, 0, none⟩) zs.length zs.length (encL c5), Wk.row 37 5 q zs.length e (encL zs)]) (fun (c5 : List Bool) => [LtF x, LsF p 0 xs, LsF pm 0 ms, UF w0]) (fun (c5 : List Bool) => CanR (xs.map LTerm.t) (zs.map LTerm.t) c5 ∧ LeB c4 c5 ∧ (cnF (zs.map LTerm.t) c3 x.t → cnF (zs.map LTerm.t) c5 (nthL x.kids k6).t)) ?_ ?_
                                      · refine c_seq ?_; refine c_region ?_; (iterate 3 (refine sq S ?_; clear S; intro a S))
                                        rw [show (⟨g, i, none⟩ : Addr) = rAddr (some ⟨g, 0, none⟩) i from by rw [rAddr, Option.getD_some, add_lit]] at S
                                        refine slr1 (.bool (nthG c4 i)) S zs.length (encB_get (nthG_get (by have := hcan4.len; omega))) ?_; clear S; intro a S
                                        refine wl_nil ?_; refine xtn ?_
                                        refine c_cond S (fun h42 => ?_) (fun h42 => ?_)
                                        · refine c_region ?_; (iterate 3 (refine sq S ?_; clear S; intro a S))
                                          rw [show (⟨g, j, none⟩ : Addr) = rAddr (some ⟨g, 0, none⟩) j from by rw [rAddr, Option.getD_some, add_lit]] at S
                                          refine sws S zs.length (by omega) (by omega) ?_; clear S; intro a w S
                                          rw [encB_set c4 j true (by have := hcan4.len; omega)] at S
                                          refine wl_nil ?_; refine xtn ?_
                                          have hcx := (cn_nth hocc2.nd hcan4.len hxt).1 h42
                                          have hd := opn_der hcan3.sound (hopn2 ho3t k6 hfk hkk) (hcan4.sound _ hcx)
                                          exact ⟨_, S.uu, ⟨hcan4.set hzj hd, LeB.set _ _, fun _ => cn_set hzj hcan4.len⟩, S.sub _ _⟩
                                        · refine c_skip ?_; refine xtn ?_
                                          exact ⟨_, S.uu, ⟨hcan4, LeB.refl _, fun h => by rw [(cn_nth hocc2.nd hcan4.len hxt).2 (cn_le hle4 h)] at h42; cases h42⟩, S.sub _ _⟩
                                      · clear S; rintro c5 uu a w ⟨hcan5, hle5, hset5⟩ S
                                        refine c_seq ?_; refine c_region ?_; (iterate 3 (refine sq S ?_; clear S; intro a S))
                                        rw [show (⟨g2, i, none⟩ : Addr) = rAddr (some ⟨g2, 0, none⟩) i from by rw [rAddr, Option.getD_some, add_lit]] at S
                                        refine slr1 (.bool (nthG ps i)) S zs.length (encB_get (nthG_get (by have := hpl6; omega))) ?_; clear S; intro a S
                                        refine wl_nil ?_; refine xtn ?_
                                        refine c_cond S (fun h44 => ?_) (fun h44 => ?_)
                                        · refine c_region ?_; (iterate 3 (refine sq S ?_; clear S; intro a S))
                                          rw [show (⟨g2, j, none⟩ : Addr) = rAddr (some ⟨g2, 0, none⟩) j from by rw [rAddr, Option.getD_some, add_lit]] at S
                                          refine sws S zs.length (by omega) (by omega) ?_; clear S; intro a w S
                                          rw [encB_set ps j true (by have := hpl6; omega)] at S
                                          refine wl_nil ?_; refine xbn ?_; refine xtn ?_; refine c_region ?_; (iterate 3 (refine sq S ?_; clear S; intro a S)); refine wl_nil ?_; refine xtn ?_
                                          rw [w64 ((k6 : Int) + 1) (by omega) (by omega)] at S
                                          refine ⟨k6 + 1, c5, ps.set j true, S.uu, ⟨by omega, by rw [List.length_set]; exact hpl6, hcan5, hle4.trans hle5, fun m h1 h2 h3 => ?_⟩, S.sub _ _, by omega⟩
                                          by_cases e : m = k6
                                          · subst e; exact hset5 h3
                                          · exact cn_le hle5 (hset m h1 (by omega) h3)
                                        · refine c_skip ?_; refine xbn ?_; refine xtn ?_; refine c_region ?_; (iterate 3 (refine sq S ?_; clear S; intro a S)); refine wl_nil ?_; refine xtn ?_
                                          rw [w64 ((k6 : Int) + 1) (by omega) (by omega)] at S
                                          refine ⟨k6 + 1, c5, ps, S.uu, ⟨by omega, hpl6, hcan5, hle4.trans hle5, fun m h1 h2 h3 => ?_⟩, S.sub _ _, by omega⟩
                                          by_cases e : m = k6
                                          · subst e; exact hset5 h3
                                          · exact cn_le hle5 (hset m h1 (by omega) h3)
                                    · refine c_exit ?_; (iterate 2 (refine xte ?_)); refine xbe ?_; refine xbn ?_; refine xtn ?_; refine c_region ?_; (iterate 3 (refine sq S ?_; clear S; intro a S)); refine wl_nil ?_; refine xtn ?_
                                      rw [w64 ((i : Int) + 1) (by omega) (by omega)] at S
                                      refine ⟨i + 1, c4, ps, S.uu, ⟨hil, hpl6, hcan4, hle03.trans hle4, hturn c4 hle4 (fun y hy hc => ?_)⟩, S.sub _ _, by omega⟩
                                      obtain ⟨_, m, h1, h2, h3⟩ := hopn y hy
                                      have : k6 ≥ x.kids.length := by have := of_decide_eq_false h39; omega
                                      rw [← h3]
                                      exact hset m h1 (by omega) hc
                    · refine c_exit ?_; (iterate 2 (refine xte ?_)); refine xbe ?_; refine xbn ?_; refine xtn ?_; refine c_region ?_; (iterate 3 (refine sq S ?_; clear S; intro a S)); refine wl_nil ?_; refine xtn ?_
                      rw [w64 ((r : Int) + 1) (by omega) (by omega)] at S
                      have hie : i = zs.length := by have := of_decide_eq_false h21; omega
                      exact ⟨r + 1, c0, ps, S.uu, ⟨by omega, hpl2, hcan0, round_of zs rfl hocc2.left hcan0 hle0 (fun j hj => hdone j (by rw [hlm] at hj; omega)) hful⟩, S.sub _ _, by omega⟩
                · refine c_exit ?_; (iterate 2 (refine xte ?_)); refine xbe ?_; refine xtn ?_; refine c_seq ?_; refine c_region ?_; (iterate 6 (refine sq S ?_; clear S; intro a S)); refine wl_nil ?_; refine xtn ?_; refine c_ret ?_
                  have hrl : 2 * zs.length < r := by have := of_decide_eq_false h18; omega
                  have hF := full_end hcan hful (by rw [hlm]; omega)
                  have hl := ls_of_own (S.row q zs.length) (fun x hx => uf_less (S.mem.fact0 (UF w0)) (hzs x hx)) (fun _ _ h => h)
                  have hcl := hcan.len
                  rw [hlm] at hcl
                  have hg := S.row (some ⟨g, 0, none⟩) zs.length (xs := encL cs)
                  have hnew := S.rowNew (some ⟨g, 0, none⟩) zs.length (xs := encL cs)
                  refine end3 S (fun _ => ?_)
                  exact ⟨q, some ⟨g, 0, none⟩, some ⟨g2, 0, none⟩, e, zs.length, zs.length, zs, cs, ps, by rw [hcl, hpl], hl, by rw [hcl]; exact hg, fun ad h => (hnew ad h).elim (fun h => h.elim) id, hocc2, hcan, hF, by omega⟩
theorem can7_c (xs : List LTerm) (t : LTerm) (p : Option Addr) (c : Nat) (w0 : World) (hxl : xs.length ≤ 500) (hgx : ∀ x ∈ xs, Good x.t) (hgt : Good t.t) (hx : Stable (fun _ => False) w0 (LsF p 0 xs)) (ht : Stable (fun _ => False) w0 (LtF t)) :
    Ret Try.prog 14 [.slice p xs.length c, vL t] w0 (fun _ => False) fun v _ => v = .bool (derB (xs.map LTerm.t) t.t) := by
  refine enter Try.func14 rfl rfl (Wd.begin (fs := [LsF p 0 xs, LtF t]) (by simp; exact ⟨hx, ht⟩)) (fun a S => ?_)
  simp only [Try.ntmps14, List.length_cons, List.length_nil, Nat.reduceAdd, Nat.reduceSub, List.replicate_succ, List.replicate_zero, List.cons_append, List.nil_append] at S
  refine c_seq ?_; refine c_region ?_
  refine sa S ?_; clear S; intro b3 a w S
  refine sq S ?_; clear S; intro a S; refine wl_nil ?_; refine xtn ?_; refine c_seq ?_; refine c_region ?_; (iterate 2 (refine sq S ?_; clear S; intro a S))
  refine sn S ?_; clear S; intro b11 a w S
  have hls := ls_box7 (ts := [t]) (S.box b11) (fun x hx => by obtain rfl := List.mem_singleton.1 hx; exact S.mem.t0 x)
  refine srn S (set7_c xs [t] p (some ⟨b11, 0, none⟩) c 1 w (by omega) (by simp) hgx (fun x hx => by obtain rfl := List.mem_singleton.1 hx; exact hgt) (S.mem.fact0 (LsF p 0 xs)) hls) ?_; clear S hls; rintro _ a w ⟨q1, q2, q3, c1, c2, c3, ys, cs, ps, rfl, hl, hown, hnew, hocc, hcan, hful, hyl⟩ hS -
  have S := hS hown hnew
  clear hS hown hnew
  have hcl : cs.length = ys.length := by rw [hcan.len, List.length_map]
  obtain ⟨j, hj, hzj⟩ := hasI_in (hocc.has t.t (by simp))
  have hjl : j < ys.length := by have := (List.getElem?_eq_some_iff.1 hzj).1; simpa using this
  have hKj : KLt j cs.length := ⟨by omega⟩
  have hrk := reckon hocc.left hcan hful hzj
  (iterate 7 (refine sq S ?_; clear S; intro a S)); refine wl_nil ?_; refine xtn ?_; refine c_seq ?_; refine c_region ?_; (iterate 3 (refine sq S ?_; clear S; intro a S))
  refine sr S (has7_c ys t q1 c1 _ (by omega) hl (S.mem.t0 _)) ?_; clear S hl; rintro _ a w rfl S
  rw [hj] at S
  refine sq S ?_; clear S; intro a S
  obtain ⟨g, hg⟩ : ∃ g, q2 = some ⟨g, 0, none⟩ := by
    rcases (S.row q2 cs.length).2 with ⟨hv, h0⟩ | ⟨g, cap, cur, hv, _⟩
    · omega
    · cases hv; exact ⟨g, rfl⟩
  subst hg
  refine slr1 (.bool (derB (xs.map LTerm.t) t.t)) S cs.length (encB_get hrk) ?_; clear S; intro a S
  refine sq S ?_; clear S; intro a S; refine wl_nil ?_; refine xtn ?_; refine c_ret ?_
  refine end1 S (fun _ => rfl)
theorem ruser22_c (u : Int) (w0 : World) : Ret Try.prog 21 [.int .i64 u] w0 (fun _ => False) fun v _ => v = .bool (isUser u) := by
  refine enter Try.func21 rfl rfl (Wd.start w0) (fun a S => ?_)
  simp only [Try.ntmps21, List.length_cons, List.length_nil, Nat.reduceAdd, Nat.reduceSub, List.replicate_succ, List.replicate_zero, List.cons_append, List.nil_append] at S
  refine c_seq ?_; refine c_region ?_; refine sq S ?_; clear S; intro a S; refine wl_nil ?_; refine xtn ?_; refine c_seq ?_; refine c_region ?_; (iterate 3 (refine sq S ?_; clear S; intro a S)); (iterate 2 (refine gQ S ?_; clear S; intro a S)); (iterate 2 (refine sq S ?_; clear S; intro a S)); refine wl_nil ?_; refine xtn ?_; refine c_ret ?_
  refine end1 S (fun _ => ?_)
  rfl
instance {u : Int} {bs fs} : CallV Try.prog 21 [.int .i64 u] bs fs (.bool (isUser u)) := ⟨fun w _ => ruser22_c u w⟩
theorem rsecret22_c (u : Int) (w0 : World) : Ret Try.prog 22 [.int .i64 u] w0 (fun _ => False) fun v _ => v = vL (secretL u) := by
  refine enter Try.func22 rfl rfl (Wd.start w0) (fun a S => ?_)
  simp only [Try.ntmps22, List.length_cons, List.length_nil, Nat.reduceAdd, Nat.reduceSub, List.replicate_succ, List.replicate_zero, List.cons_append, List.nil_append] at S
  refine c_seq ?_; refine c_region ?_
  refine sa S ?_; clear S; intro b2 a w S
  refine wl_nil ?_; refine xtn ?_; refine c_seq ?_; refine c_region ?_; (iterate 2 (refine sq S ?_; clear S; intro a S)); refine sw S ?_; clear S; intro a w S; refine wl_nil ?_; refine xtn ?_; refine c_ret ?_
  refine end1 S (fun _ => ?_)
  rfl
instance {u : Int} {bs fs} : CallV Try.prog 22 [.int .i64 u] bs fs (vL (secretL u)) := ⟨fun w _ => rsecret22_c u w⟩
noncomputable def inB (K : List Term) (t : Term) : Bool := @decide (t ∈ K) (Classical.propDecidable _)
theorem inB_iff {K : List Term} {t : Term} : inB K t = true ↔ t ∈ K := by unfold inB; exact @decide_eq_true_iff _ (Classical.propDecidable _)
theorem has22_c (xs : List LTerm) (t : LTerm) (p : Option Addr) (c : Nat) (w0 : World) (hl : xs.length ≤ 10000000) (hx : Stable (fun _ => False) w0 (LsF p 0 xs)) (ht : Stable (fun _ => False) w0 (LtF t)) :
    Ret Try.prog 20 [.slice p xs.length c, vL t] w0 (fun _ => False) fun v _ => v = .bool (inB (xs.map LTerm.t) t.t) := by
  refine enter Try.func20 rfl rfl (Wd.begin (fs := [LsF p 0 xs, LtF t]) (by simp; exact ⟨hx, ht⟩)) (fun a S => ?_)
  simp only [Try.ntmps20, List.length_cons, List.length_nil, Nat.reduceAdd, Nat.reduceSub, List.replicate_succ, List.replicate_zero, List.cons_append, List.nil_append] at S
  refine c_seq ?_; refine c_region ?_
  refine sa S ?_; clear S; intro b3 a w S
  refine sq S ?_; clear S; intro a S; refine wl_nil ?_; refine xtn ?_; (iterate 2 (refine c_seq ?_)); refine c_region ?_; (iterate 3 (refine sq S ?_; clear S; intro a S)); refine wl_nil ?_; refine xtn ?_; refine c_block ?_
  refine c_forf1 S (fun (k : Nat) uu => [(4, uu 4), (1, uu 6), (2, .int .i64 (k : Nat)), (0, uu 10), (0, uu 11), (0, uu 12), (0, uu 13), (0, uu 14), (0, uu 15), (0, uu 16)]) (fun (k : Nat) => [Wk.box b3 37 t.cells]) (fun (k : Nat) => k ≤ xs.length ∧ t.t ∉ (xs.take k).map LTerm.t) (fun (k : Nat) => xs.length - k) (0) ?_ S.uu ?_ ?_
  · exact ⟨Nat.zero_le _, by simp⟩
  · first | exact S | exact S.sub _ _
  · clear S; rintro k uu a w ⟨hk, hno⟩ S
    refine c_seq ?_; refine c_region ?_; refine sq S ?_; clear S; intro a S; refine wl_nil ?_; refine xtn ?_; refine c_seq ?_
    refine c_cond S (fun h2 => ?_) (fun h2 => ?_)
    · refine c_skip ?_; refine xtn ?_; refine c_seq ?_; refine c_block ?_; refine c_seq ?_
      have hkl : k < xs.length := by have := of_decide_eq_true h2; omega
      have hK : KLt k xs.length := ⟨hkl⟩
      refine c_region ?_; (iterate 2 (refine sq S ?_; clear S; intro a S))
      refine sa S ?_; clear S; intro b6 a w S
      refine sw S ?_; clear S; intro a w S; refine wl_nil ?_; refine xtn ?_; refine c_seq ?_; refine c_region ?_; (iterate 2 (refine sq S ?_; clear S; intro a S)); refine sc S ?_; clear S; intro a w S; refine wl_nil ?_; refine xtn ?_
      refine c_cond S (fun h4 => ?_) (fun h4 => ?_)
      · refine c_seq ?_; refine c_region ?_; refine sq S ?_; clear S; intro a S; refine wl_nil ?_; refine xtn ?_; refine c_ret ?_; refine xbr ?_; (iterate 2 (refine xtr ?_)); refine xbr ?_; refine xtr ?_
        refine end1 S (fun _ => ?_)
        have : t.t ∈ xs.map LTerm.t := by
          rw [← (sameF_iff _ _).1 h4]
          exact List.mem_map.2 ⟨_, nth_mem hkl, rfl⟩
        rw [inB_iff.2 this]
      · refine c_skip ?_; refine xbn ?_; refine xtn ?_; refine c_region ?_; (iterate 2 (refine sq S ?_; clear S; intro a S)); refine wl_nil ?_; refine xtn ?_
        rw [w64 ((k : Int) + 1) (by omega) (by omega)] at S
        refine ⟨k + 1, S.uu, ⟨hkl, fun h => ?_⟩, S.sub _ _, by omega⟩
        rw [take_map_succ _ _ hkl, List.mem_append, List.mem_singleton] at h
        rcases h with h | h
        · exact hno h
        · rw [(sameF_iff _ _).2 h.symm] at h4; cases h4
    · refine c_exit ?_; (iterate 2 (refine xte ?_)); refine xbe ?_; refine xtn ?_; refine c_seq ?_; refine c_region ?_; refine sq S ?_; clear S; intro a S; refine wl_nil ?_; refine xtn ?_; refine c_ret ?_
      refine end1 S (fun _ => ?_)
      rw [List.take_of_length_le (by have := of_decide_eq_false h2; omega)] at hno
      cases hb : inB (xs.map LTerm.t) t.t with
      | false => rfl
      | true => exact absurd (inB_iff.1 hb) hno
theorem may22_c (xs : List LTerm) (p : Option Addr) (c : Nat) (w0 : World) (hl : xs.length ≤ 10000000) (hx : Stable (fun _ => False) w0 (LsF p 0 xs)) :
    Ret Try.prog 9 [.slice p xs.length c] w0 (fun _ => False) fun v _ => ∃ b, v = .bool b ∧ (b = true ↔ ∀ t ∈ xs.map LTerm.t, Good t) := by
  refine enter Try.func9 rfl rfl (Wd.begin (fs := [LsF p 0 xs]) (by simpa using hx)) (fun a S => ?_)
  simp only [Try.ntmps9, List.length_cons, List.length_nil, Nat.reduceAdd, Nat.reduceSub, List.replicate_succ, List.replicate_zero, List.cons_append, List.nil_append] at S
  refine c_seq ?_; refine c_region ?_; refine sq S ?_; clear S; intro a S; refine wl_nil ?_; refine xtn ?_; (iterate 2 (refine c_seq ?_)); refine c_region ?_; (iterate 3 (refine sq S ?_; clear S; intro a S)); refine wl_nil ?_; refine xtn ?_; refine c_block ?_
  refine c_forf1 S (fun (k : Nat) uu => [(2, uu 2), (1, uu 4), (2, .int .i64 (k : Nat)), (0, uu 8), (0, uu 9), (0, uu 10), (0, uu 11), (0, uu 12), (0, uu 13), (0, uu 14)]) (fun (k : Nat) => []) (fun (k : Nat) => k ≤ xs.length ∧ ∀ t ∈ (xs.take k).map LTerm.t, Good t) (fun (k : Nat) => xs.length - k) (0) ?_ S.uu ?_ ?_
  · exact ⟨Nat.zero_le _, by simp⟩
  · first | exact S | exact S.sub _ _
  · clear S; rintro k uu a w ⟨hk, hok⟩ S
    refine c_seq ?_; refine c_region ?_; refine sq S ?_; clear S; intro a S; refine wl_nil ?_; refine xtn ?_; refine c_seq ?_
    refine c_cond S (fun h2 => ?_) (fun h2 => ?_)
    · refine c_skip ?_; refine xtn ?_; refine c_seq ?_; refine c_block ?_; refine c_seq ?_
      have hkl : k < xs.length := by have := of_decide_eq_true h2; omega
      have hK : KLt k xs.length := ⟨hkl⟩
      have hgr : rightF (nthL xs k).t = true ↔ Good (nthL xs k).t := check_zero.symm.trans good_check
      refine c_region ?_; (iterate 2 (refine sq S ?_; clear S; intro a S))
      refine sa S ?_; clear S; intro b4 a w S
      refine sw S ?_; clear S; intro a w S; refine wl_nil ?_; refine xtn ?_; refine c_seq ?_; refine c_region ?_; refine sq S ?_; clear S; intro a S; refine sc S ?_; clear S; intro a w S; refine sq S ?_; clear S; intro a S; refine wl_nil ?_; refine xtn ?_
      refine c_cond S (fun h4 => ?_) (fun h4 => ?_)
      · refine c_seq ?_; refine c_region ?_; refine sq S ?_; clear S; intro a S; refine wl_nil ?_; refine xtn ?_; refine c_ret ?_; refine xbr ?_; (iterate 2 (refine xtr ?_)); refine xbr ?_; refine xtr ?_
        refine end1 S (fun _ => ⟨false, rfl, ⟨nofun, fun h => ?_⟩⟩)
        rw [hgr.2 (h _ (List.mem_map.2 ⟨_, nth_mem hkl, rfl⟩))] at h4
        cases h4
      · refine c_skip ?_; refine xbn ?_; refine xtn ?_; refine c_region ?_; (iterate 2 (refine sq S ?_; clear S; intro a S)); refine wl_nil ?_; refine xtn ?_
        rw [w64 ((k : Int) + 1) (by omega) (by omega)] at S
        refine ⟨k + 1, S.uu, ⟨hkl, fun t ht => ?_⟩, S.sub _ _, by omega⟩
        rw [take_map_succ _ _ hkl, List.mem_append, List.mem_singleton] at ht
        rcases ht with ht | ht
        · exact hok t ht
        · rw [ht]; exact hgr.1 (by simpa using h4)
    · refine c_exit ?_; (iterate 2 (refine xte ?_)); refine xbe ?_; refine xtn ?_; refine c_seq ?_; refine c_region ?_; refine sq S ?_; clear S; intro a S; refine wl_nil ?_; refine xtn ?_; refine c_ret ?_
      refine end1 S (fun _ => ⟨true, rfl, fun _ => ?_, fun _ => rfl⟩)
      rw [List.take_of_length_le (by have := of_decide_eq_false h2; omega)] at hok
      exact hok
theorem leaks22_c (us : List Int) (ks ls : List LTerm) (pu pk pl : Option Addr) (cu ck cl : Nat) (w0 : World) (hR : RightA (ks.map LTerm.t) us) (hll : ls.length ≤ 900) (hG : ∀ t ∈ ls.map LTerm.t, Good t) (hk : Stable (fun _ => False) w0 (LsF pk 0 ks)) (hl : Stable (fun _ => False) w0 (LsF pl 0 ls)) :
    Ret Try.prog 11 [vA pu us.length cu pk ks.length ck, .slice pl ls.length cl] w0 (fun _ => False) fun v w' => ∃ (p : Option Addr) (c : Nat) (os : List LTerm), v = .slice p os.length c ∧ os.map LTerm.t = (ls.map LTerm.t).filter (derB (ks.map LTerm.t)) ∧ Stable (fun _ => False) w' (LsF p 0 os) ∧ os.length ≤ ls.length := by
  have hk500 : ks.length ≤ 500 := by have := hR.1.1; simpa using this
  refine enter Try.func11 rfl rfl (Wd.begin (fs := [LsF pk 0 ks, LsF pl 0 ls]) (by simp; exact ⟨hk, hl⟩)) (fun a S => ?_)
  simp only [Try.ntmps11, List.length_cons, List.length_nil, Nat.reduceAdd, Nat.reduceSub, List.replicate_succ, List.replicate_zero, List.cons_append, List.nil_append] at S
  refine c_seq ?_; refine c_region ?_
  refine sa S ?_; clear S; intro b2 a w S
  refine sq S ?_; clear S; intro a S; refine wl_nil ?_; refine xtn ?_; refine c_seq ?_; refine c_region ?_; refine sq S ?_; clear S; intro a S; refine wl_nil ?_; refine xtn ?_; (iterate 2 (refine c_seq ?_)); refine c_region ?_; (iterate 3 (refine sq S ?_; clear S; intro a S)); refine wl_nil ?_; refine xtn ?_; refine c_block ?_
  refine c_fore4 S (fun (k : Nat) (os : List LTerm) (p' : Option Addr) (c' : Nat) uu => [(5, .slice p' os.length c'), (1, uu 7), (2, .int .i64 (k : Nat)), (0, uu 11), (0, uu 12), (0, uu 13), (0, uu 14), (0, uu 15), (0, uu 16), (0, uu 17), (0, uu 18), (0, uu 19), (0, uu 20), (0, uu 21), (0, uu 22)]) (fun (k : Nat) (os : List LTerm) (p' : Option Addr) (c' : Nat) => [Wk.box b2 25 [.slice pu us.length cu, .slice pk ks.length ck], Wk.row 37 5 p' os.length c' (encL os)]) (fun (k : Nat) (os : List LTerm) (p' : Option Addr) (c' : Nat) => [LsF pk 0 ks, LsF pl 0 ls]) (fun (k : Nat) (os : List LTerm) (p' : Option Addr) (c' : Nat) => k ≤ ls.length ∧ os.length ≤ k ∧ os.map LTerm.t = ((ls.take k).map LTerm.t).filter (derB (ks.map LTerm.t)) ∧ ∀ y ∈ os, y ∈ ls) (fun (k : Nat) (os : List LTerm) (p' : Option Addr) (c' : Nat) => ls.length - k) (0) ([]) (none) (0) ?_ S.uu ?_ ?_
  · exact ⟨Nat.zero_le _, Nat.le_refl _, rfl, nofun⟩
  · replace S := S.addNil 37 5
    rw [show Wk.row 37 5 none 0 0 [] = Wk.row 37 5 none 0 0 (encL ([] : List LTerm)) from rfl] at S
    replace S := S.front (Wk.box b2 25 [.slice pu us.length cu, .slice pk ks.length ck])
    exact S.sub _ _
  · clear S; rintro k os p' c' uu a w ⟨hkk, hok, hrel, hos⟩ S
    refine c_seq ?_; refine c_region ?_; refine sq S ?_; clear S; intro a S; refine wl_nil ?_; refine xtn ?_; refine c_seq ?_
    refine c_cond S (fun h3 => ?_) (fun h3 => ?_)
    · refine c_skip ?_; refine xtn ?_; refine c_seq ?_; refine c_block ?_; refine c_seq ?_
      have hkl : k < ls.length := by have := of_decide_eq_true h3; omega
      have hK : KLt k ls.length := ⟨hkl⟩
      have hgt : Good (nthL ls k).t := hG _ (List.mem_map.2 ⟨_, nth_mem hkl, rfl⟩)
      refine c_region ?_; (iterate 2 (refine sq S ?_; clear S; intro a S))
      refine sa S ?_; clear S; intro b7 a w S
      refine sw S ?_; clear S; intro a w S; refine wl_nil ?_; refine xtn ?_; refine c_seq ?_; refine c_region ?_; (iterate 3 (refine sq S ?_; clear S; intro a S))
      refine sr S (can7_c ks (nthL ls k) pk ck _ hk500 (fun x hx => hR.1.2.1 _ (List.mem_map.2 ⟨x, hx, rfl⟩)) hgt (S.mem.fact0 (LsF pk 0 ks)) (S.mem.t0 _)) ?_; clear S; rintro _ a w rfl S
      refine wl_nil ?_; refine xtn ?_
      refine c_cond S (fun h5 => ?_) (fun h5 => ?_)
      · refine c_region ?_; (iterate 2 (refine sq S ?_; clear S; intro a S))
        refine sn S ?_; clear S; intro b20 a w S
        have e1 : encL os ++ (nthL ls k).cells = encL (os ++ [nthL ls k]) := by rw [encL_append, encT_cells]
        refine sap S (by simp [maxLen]; omega) (by omega) ?_; clear S; rintro p6 c6 a w - S
        rw [show encL os ++ [Value.int .i64 (nthL ls k).kind, Value.int .i64 (nthL ls k).user, Value.int .i64 (nthL ls k).num, str (nthL ls k).text, Value.slice (nthL ls k).p (nthL ls k).kids.length (nthL ls k).cap] = encL (os ++ [nthL ls k]) from e1, show os.length + 1 = (os ++ [nthL ls k]).length from by simp] at S
        refine sq S ?_; clear S; intro a S; refine wl_nil ?_; refine xbn ?_; refine xtn ?_; refine c_region ?_; (iterate 2 (refine sq S ?_; clear S; intro a S)); refine wl_nil ?_; refine xtn ?_
        rw [w64 ((k : Int) + 1) (by omega) (by omega)] at S
        refine ⟨k + 1, os ++ [nthL ls k], p6, c6, S.uu, ⟨hkl, by simp; omega, ?_, fun y hy => ?_⟩, S.sub _ _, by omega⟩
        · rw [take_map_succ _ _ hkl, List.filter_append, ← hrel, List.map_append]
          simp [h5]
        · rcases List.mem_append.1 hy with hy | hy
          · exact hos y hy
          · rw [List.mem_singleton.1 hy]; exact nth_mem hkl
      · refine c_skip ?_; refine xbn ?_; refine xtn ?_; refine c_region ?_; (iterate 2 (refine sq S ?_; clear S; intro a S)); refine wl_nil ?_; refine xtn ?_
        rw [w64 ((k : Int) + 1) (by omega) (by omega)] at S
        refine ⟨k + 1, os, p', c', S.uu, ⟨hkl, by omega, ?_, hos⟩, S.sub _ _, by omega⟩
        rw [take_map_succ _ _ hkl, List.filter_append, ← hrel]
        simp [h5]
    · refine c_exit ?_; (iterate 2 (refine xte ?_)); refine xbe ?_; refine xtn ?_; refine c_seq ?_; refine c_region ?_; (iterate 2 (refine sq S ?_; clear S; intro a S)); refine wl_nil ?_; refine xtn ?_; refine c_ret ?_
      have hke : k = ls.length := by have := of_decide_eq_false h3; omega
      subst hke
      rw [List.take_length] at hrel
      have hls := ls_of_own (S.row p' os.length) (fun x hx => kids_st (S.mem.fact0 (LsF pl 0 ls)) (hos x hx)) (fun _ _ h => h)
      refine end1 S (fun _ => ?_)
      exact ⟨p', c', os, rfl, hrel, hls, hok⟩
open Go.ChangeShapes Go.WideShapes Go.ChangeAt Go.RowKit
theorem own : ownKnob Try.prog.godebug = none := by kernel_rfl
theorem laidOut : laidOutB Try.prog = true := by kernel_rfl
instance termTy : TermTy Try.prog 37 := ⟨⟨_, 3, 9, 23, rfl, rfl, rfl, rfl, rfl, by kernel_rfl, by kernel_rfl, by kernel_rfl, by kernel_rfl⟩⟩
instance troInt : Tro Try.prog 3 Int := troI Try.underlying3 (by kernel_rfl)
instance troTerm : Tro Try.prog 37 LTerm := troT
instance troInts : Tro Try.prog 22 (Sl Int) := troSl Try.underlying22 (by kernel_rfl)
instance troTerms : Tro Try.prog 23 (Sl LTerm) := troSl Try.underlying23 (by kernel_rfl)
instance troAtk : Tro Try.prog 25 LAtk := ⟨fun enc w base spare held fuel cs x h => by
  obtain ⟨hlen, hf⟩ := trod_flds Try.underlying25 h
  rw [show Try.prog.cellsOf 25 = 2 from by kernel_rfl] at hlen
  obtain ⟨n0, y0, g0⟩ := hf 0 22 0 rfl
  obtain ⟨n1, y1, g1⟩ := hf 1 23 1 rfl
  obtain ⟨u, e0, i0⟩ := trod_fld (α := Sl Int) g0 rfl
  obtain ⟨k, e1, i1⟩ := trod_fld (α := Sl LTerm) g1 rfl
  refine ⟨⟨u, k⟩, ?_, i0, i1⟩
  match cs, hlen with
  | [c0, c1], _ =>
    have q0 : [c0] = [u.v] := e0
    have q1 : [c1] = [k.v] := e1
    simp only [List.cons.injEq, and_true] at q0 q1
    rw [q0, q1]; rfl, by kernel_rfl⟩
end Go.Proofs.Ytibkkbknnfehlaa
namespace Go.Wk
open Go
class Ascii (m : Int) : Prop where
  lo : 0 ≤ m
  hi : m < 128
section
variable {P : Program} {l : Cx} {bs : List Item} {fs : List (World → Prop)} {x y : Operand} {t t' ty : TypeId} {s u : List UInt8} {m : Int} {k : IntKind}
end
open Go Go.Deep Go.ChangeShapes Go.WideShapes Go.ChangeAt Go.RowKit
section
variable {w0 : World} {M0 : Nat → Prop} {ds : List Deferred} {a : Act} {w : World} {l : List Value} {bs bs' : List Item} {fs : List (World → Prop)}
end
section
variable {P : Program} {l : Cx} {bs : List Item} {fs : List (World → Prop)} {x y : Operand} {p : Option Addr} {n c k sz off : Nat} {kk : IntKind} {m : Int} {t ty e : TypeId} {z v : Value} {by_ : Nat}
class CLt (cs : List Bool) (k n : Nat) : Prop where lt : (∀ c ∈ cs, c = true) → k < n
section
variable {cs : List Bool} {ls : List Value} {α : Type} {i : Lay α} {xs : List α}
instance (priority := 820) opIdxGC [Ev ⟨cs, ls⟩ x (.slice p n c)] [Ev ⟨cs, ls⟩ y (.int kk m)] [Und P t (.slice e)] [TI P e z sz by_] [hm : IsNat m k] [hl : HasG fs p α i xs] [hs : SzE α sz] [hk : CLt cs k n] [hk' : CLt cs k xs.length] :
    OpQ P (.indexAddr t x y) ty ⟨cs, ls⟩ bs fs (.pointer (some (gAddr p k sz 0))) := ⟨fun ρ w h mm => by
  have hlt := hk.lt h.1
  obtain ⟨ad, rfl⟩ := gl_some (hl.of _ _ mm.facts).now (hk'.lt h.1) (by rw [hs.eq]; exact hs.pos)
  have h2 := hm.eq
  subst h2
  simp [xop, execOp, h.ev (x := x) (v := .slice (some ad) n c), h.ev (x := y) (v := .int kk (k : Int))]
  simp [run_indexAt (P := P) (t := t) (e := e) (z := z) (sz := sz) (by_ := by_) (Int.natCast_nonneg k) (Int.ofNat_lt.2 hlt), gAddr]⟩
instance (priority := 760) opLoadG1C {ds : List Value} [Ev ⟨cs, ls⟩ x (.pointer (some (gAddr p k sz off)))] [ha : AggT P t false] [hl : HasG fs p α i xs] [hs : SzE α sz] [hk : CLt cs k xs.length] [hc : CellsOf (nthG xs k) ds] [hn : Nth ds off v] :
    OpQ P (.load t x) ty ⟨cs, ls⟩ bs fs v := ⟨fun ρ w h mm => by
  have h1 := gl_cells (hl.of _ _ mm.facts).now (hk.lt h.1) hn.eq
  simp [xop, execOp, Instr.loadAt, h.ev (x := x) (v := .pointer (some (gAddr p k sz off))), Instr.sureAddr, loadVar, Sem.run_bind, ha.run, load, Sem.run, h1]⟩
end
end
def AgF (M : Nat → Prop) (w : World) : World → Prop := fun w' => Agree M w w'
section
variable {w0 : World} {M0 : Nat → Prop} {ds : List Deferred} {a : Act} {w : World} {l : List Value} {bs bs' : List Item} {fs : List (World → Prop)}
end
class PS (p : Option Addr) : Prop where ex : ∃ ad, p = some ad
theorem PS.of {w : World} {e : TypeId} {sz : Nat} {p : Option Addr} {n c : Nat} {xs : List Value} (h : w.ownsRow 0 e sz (.slice p n c) n xs) (hn : 0 < n) : PS p := by
  obtain ⟨g, cur, rfl, _⟩ := own_cells h hn
  exact ⟨_, rfl⟩
section
variable {P : Program} {lc : Cx} {bs : List Item} {fs : List (World → Prop)} {x y : Operand} {p : Option Addr} {n c k sz o : Nat} {kk : IntKind} {m : Int} {t ty e : TypeId} {z : Value} {by_ : Nat}
instance (priority := 955) opIdxP [Ev lc x (.slice p n c)] [Ev lc y (.int kk m)] [Und P t (.slice e)] [TI P e z sz by_] [hm : IsNat m k] [hp : PS p] [hk : KLt k n] [hmul : MulN k sz o] :
    OpQ P (.indexAddr t x y) ty lc bs fs (.pointer (some (rAddr p o))) := ⟨fun ρ w h mm => by
  have hlt := hk.lt
  obtain ⟨ad, rfl⟩ := hp.ex
  have h2 := hm.eq
  subst h2
  have e3 := hmul.eq
  simp [xop, execOp, h.ev (x := x) (v := .slice (some ad) n c), h.ev (x := y) (v := .int kk (k : Int))]
  simp [run_indexAt (P := P) (t := t) (e := e) (z := z) (sz := sz) (by_ := by_) (Int.natCast_nonneg k) (Int.ofNat_lt.2 hlt), rAddr, e3]⟩
end
class IfT (P : Program) (t : TypeId) : Prop where eq : P.underlying t = some (.interface (P.methodsAt t))
end Go.Wk
namespace Go.Proofs.Ytibkkbknnfehlaa
open Go Go.Wk
set_option synthInstance.maxSize 100000
set_option synthInstance.maxHeartbeats 400000
set_option maxRecDepth 100000
theorem LsIn.take {w : World} {p : Option Addr} : ∀ {i : Nat} (ts : List LTerm) (k : Nat), LsIn w p i ts → LsIn w p i (ts.take k)
  | _, [], k, _ => by simp [LsIn]
  | i, t :: ts, 0, _ => by simp [LsIn]
  | i, t :: ts, k + 1, h => by
    rw [LsIn] at h
    rw [List.take_succ_cons, LsIn]
    exact ⟨h.1, h.2.1, LsIn.take ts k h.2.2⟩
class LsN (fs : List (World → Prop)) (p : Option Addr) (n : Nat) (xs : outParam (List LTerm)) : Prop where
  mem : LsF p 0 xs ∈ fs
  len : xs.length = n
  le : n ≤ 10000000
instance callHas22 {fs : List (World → Prop)} {bs : List Wk.Item} {p : Option Addr} {n c : Nat} {xs : List LTerm} {t : LTerm} [h1 : LsN fs p n xs] [h2 : HasT fs t] : CallV Try.prog 20 [.slice p n c, vL t] bs fs (.bool (inB (xs.map LTerm.t) t.t)) := ⟨fun w m => by
  have := has22_c xs t p c w (by rw [h1.len]; exact h1.le) ((m.facts _ h1.mem).less fun _ _ h => h.elim) ((h2.of _ _ m.facts).less fun _ _ h => h.elim)
  rw [h1.len] at this
  exact this⟩
theorem gif_predR {c b : Bool} {k : Nat} (hb : b = true → 1 ≤ k) (hk : k ≤ 1000000) : gif c (gif b (.int .i64 (IntKind.i64.wrap ((k : Int) - 1)))) = gif c (gif b (.int .i64 ((k - 1 : Nat) : Int))) := by
  cases b with
  | false => rfl
  | true => rw [w64 _ (by omega) (by omega), show (k : Int) - 1 = ((k - 1 : Nat) : Int) from by have := hb rfl; omega]
theorem last_us {us : List Int} {k : Nat} (hu : 1 ≤ nthG us k) : decide (lastU us k < nthG us k) = !(decide (0 < (k : Int)) && decide (nthG us k ≤ nthG us (k - 1))) := by
  cases k with
  | zero => rw [show lastU us 0 = 0 from rfl, decide_eq_true (show (0 : Int) < nthG us 0 by omega)]; rfl
  | succ j =>
    rw [show lastU us (j + 1) = nthG us j from rfl, show j + 1 - 1 = j from by omega, decide_eq_true (show (0 : Int) < ((j + 1 : Nat) : Int) by omega), Bool.true_and]
    by_cases h : nthG us j < nthG us (j + 1)
    · rw [decide_eq_true h, decide_eq_false (by omega)]; rfl
    · rw [decide_eq_false h, decide_eq_true (by omega)]; rfl
theorem right22_c (us : List Int) (ks : List LTerm) (pu pk : Option Addr) (cu ck : Nat) (w0 : World) (hul : us.length ≤ 1000000) (hkl0 : ks.length ≤ 1000000) (hkc : ks.length ≤ ck) (hu : Stable (fun _ => False) w0 (SlF pu (encL us))) (hk : Stable (fun _ => False) w0 (LsF pk 0 ks)) :
    Ret Try.prog 6 [vA pu us.length cu pk ks.length ck] w0 (fun _ => False) fun v _ => ∃ b, v = .bool b ∧ (b = true ↔ RightA (ks.map LTerm.t) us) := by
  refine enter Try.func6 rfl rfl (Wd.begin (fs := [GlF pu us, LsF pk 0 ks]) (by simp; exact ⟨hu.imp fun _ => sl_gl, hk⟩)) (fun a S => ?_)
  simp only [Try.ntmps6, List.length_cons, List.length_nil, Nat.reduceAdd, Nat.reduceSub, List.replicate_succ, List.replicate_zero, List.cons_append, List.nil_append] at S
  refine c_seq ?_; refine c_region ?_
  refine sa S ?_; clear S; intro b1 a w S
  refine sq S ?_; clear S; intro a S; refine wl_nil ?_; refine xtn ?_; (iterate 2 (refine c_seq ?_)); refine c_region ?_; (iterate 4 (refine sq S ?_; clear S; intro a S)); refine wl_nil ?_; refine xtn ?_
  refine c_cond S (fun h1 => ?_) (fun h1 => ?_)
  · refine c_seq ?_; refine c_region ?_; refine sq S ?_; clear S; intro a S; refine wl_nil ?_; refine xtn ?_; refine c_ret ?_; refine xtr ?_
    refine end1 S (fun _ => ⟨false, rfl, ⟨nofun, fun h => ?_⟩⟩)
    have := h.1.1
    have h2 := of_decide_eq_true h1
    rw [List.length_map] at this
    omega
  · refine c_skip ?_; refine xtn ?_; (iterate 2 (refine c_seq ?_)); refine c_region ?_; (iterate 4 (refine sq S ?_; clear S; intro a S)); refine wl_nil ?_; refine xtn ?_; refine c_block ?_
    refine c_forf1 S (fun (k : Nat) uu => [(2, uu 2), (0, uu 3), (0, uu 4), (9, .int .i64 (k : Nat)), (0, uu 15), (0, uu 16), (0, uu 17), (0, uu 18), (0, uu 19), (0, uu 20), (0, uu 21), (0, uu 22), (0, uu 23), (0, uu 24), (0, uu 25), (0, uu 26), (0, uu 27), (0, uu 28), (0, uu 29), (0, uu 30)]) (fun (k : Nat) => [Wk.box b1 25 [.slice pu us.length cu, .slice pk ks.length ck]]) (fun (k : Nat) => k ≤ ks.length ∧ OkK ((ks.take k).map LTerm.t) ks.length) (fun (k : Nat) => ks.length - k) (0) ?_ S.uu ?_ ?_
    · exact ⟨Nat.zero_le _, by have := of_decide_eq_false h1; simp [OkK]; omega⟩
    · first | exact S | exact S.sub _ _
    · clear S; rintro k uu a w ⟨hkk, hok⟩ S
      refine c_seq ?_; refine c_region ?_; refine sq S ?_; clear S; intro a S; refine wl_nil ?_; refine xtn ?_; refine c_seq ?_
      refine c_cond S (fun h4 => ?_) (fun h4 => ?_)
      · refine c_skip ?_; refine xtn ?_; refine c_seq ?_; refine c_block ?_; refine c_seq ?_
        have hkl : k < ks.length := by have := of_decide_eq_true h4; omega
        have hK : KLt k ks.length := ⟨hkl⟩
        have hLc : LeC k ck := ⟨by omega⟩
        have hN : LsN [LsF pk 0 (ks.take k), GlF pu us, LsF pk 0 ks] pk k (ks.take k) := ⟨by simp, by simp; omega, by omega⟩
        have hstep := OkK.snoc (K := (ks.take k).map LTerm.t) (n := ks.length) (t := (nthL ks k).t)
        rw [← take_map_succ ks k hkl] at hstep
        have hgr : rightF (nthL ks k).t = true ↔ Good (nthL ks k).t := check_zero.symm.trans good_check
        replace S := S.add (Φ := LsF pk 0 (ks.take k)) ((S.mem.fact (LsF pk 0 ks)).imp fun _ h => LsIn.take ks k h)
        refine c_region ?_; (iterate 3 (refine sq S ?_; clear S; intro a S))
        refine sa S ?_; clear S; intro b4 a w S
        refine sq S ?_; clear S; intro a S; refine sw S ?_; clear S; intro a w S; refine wl_nil ?_; refine xtn ?_; refine c_seq ?_
        refine c_drawD [(0, true), (1, false), (2, true), (3, true), (4, true), (5, true), (6, true), (7, true), (8, true), (9, false), (10, true)] [] S ?_; clear S; intro w S
        refine dq S ?_; clear S; intro a S; refine dl ?_; refine sc S ?_; clear S; intro a w S; refine de S ?_; (iterate 2 (refine dq S ?_; clear S; intro a S)); (iterate 5 (refine dqG S ?_; clear S; intro a S)); refine dl ?_; refine gC S ?_; clear S; intro a w S; refine de S ?_; refine dq S ?_; clear S; intro a S; refine dn ?_; refine xtn ?_
        refine c_cond S (fun h6 => ?_) (fun h6 => ?_)
        · refine c_seq ?_; refine c_region ?_; refine sq S ?_; clear S; intro a S; refine wl_nil ?_; refine xtn ?_; refine c_ret ?_; refine xbr ?_; (iterate 2 (refine xtr ?_)); refine xbr ?_; refine xtr ?_
          refine end1 S (fun _ => ⟨false, rfl, ⟨nofun, fun h => ?_⟩⟩)
          have hO : OkK ((ks.take (k + 1)).map LTerm.t) ks.length := by
            have h1 := h.1
            rw [List.length_map] at h1
            refine ⟨h1.1, fun t ht => h1.2.1 t ?_, h1.2.2.sublist ((List.take_sublist _ _).map _)⟩
            exact ((List.take_sublist (k + 1) ks).map LTerm.t).subset ht
          obtain ⟨_, q1, q2⟩ := hstep.1 hO
          rw [hgr.2 q1] at h6
          have q3 : inB ((ks.take k).map LTerm.t) (nthL ks k).t = false := by
            cases hb : inB ((ks.take k).map LTerm.t) (nthL ks k).t with
            | false => rfl
            | true => exact absurd (inB_iff.1 hb) q2
          rw [q3] at h6
          simp at h6
        · refine c_skip ?_; refine xbn ?_; refine xtn ?_; refine c_region ?_; (iterate 2 (refine sq S ?_; clear S; intro a S)); refine wl_nil ?_; refine xtn ?_
          rw [w64 ((k : Int) + 1) (by omega) (by omega)] at S
          refine ⟨k + 1, S.uu, ⟨hkl, hstep.2 ⟨hok, ?_⟩⟩, S.sub _ _, by omega⟩
          have q1 : rightF (nthL ks k).t = true := by
            cases hb : rightF (nthL ks k).t with
            | true => rfl
            | false => rw [hb] at h6; simp at h6
          rw [q1] at h6
          refine ⟨hgr.1 q1, fun h => ?_⟩
          rw [inB_iff.2 h] at h6
          simp at h6
      · refine c_exit ?_; (iterate 2 (refine xte ?_)); refine xbe ?_; refine xtn ?_; (iterate 2 (refine c_seq ?_)); refine c_region ?_; (iterate 4 (refine sq S ?_; clear S; intro a S)); refine wl_nil ?_; refine xtn ?_; refine c_block ?_
        rw [List.take_of_length_le (by have := of_decide_eq_false h4; omega)] at hok
        replace hok : OkK (ks.map LTerm.t) (ks.map LTerm.t).length := by rw [List.length_map]; exact hok
        refine c_fore1 S (fun (k : Nat) uu => [(2, uu 2), (2, uu 5), (0, uu 6), (27, .int .i64 (k : Nat)), (0, uu 35), (0, uu 36), (0, uu 37), (0, uu 38), (0, uu 39), (0, uu 40), (0, uu 41), (0, uu 42), (0, uu 43), (0, uu 44), (0, uu 45), (0, uu 46), (0, uu 47), (0, uu 48), (0, uu 49), (0, uu 50), (0, uu 51), (0, uu 52), (0, uu 53), (0, uu 54), (0, uu 55), (0, uu 56), (0, uu 57), (0, uu 58), (0, uu 59), (0, uu 60), (0, uu 61), (0, uu 62), (0, uu 63), (0, uu 64)]) (fun (k : Nat) => [Wk.box b1 25 [.slice pu us.length cu, .slice pk ks.length ck]]) (fun (k : Nat) => [GlF pu us, LsF pk 0 ks]) (fun (k : Nat) => k ≤ us.length ∧ ∀ j < k, UP (ks.map LTerm.t) us j) (fun (k : Nat) => us.length - k) (0) ?_ S.uu ?_ ?_
        · exact ⟨Nat.zero_le _, fun j hj => absurd hj (Nat.not_lt_zero _)⟩
        · first | exact S | exact S.sub _ _
        · clear S; rintro k uu a w ⟨hku, hup⟩ S
          refine c_seq ?_; refine c_region ?_; refine sq S ?_; clear S; intro a S; refine wl_nil ?_; refine xtn ?_; refine c_seq ?_
          refine c_cond S (fun h10 => ?_) (fun h10 => ?_)
          · refine c_skip ?_; refine xtn ?_; refine c_seq ?_; refine c_block ?_; refine c_seq ?_
            have hkl : k < us.length := by have := of_decide_eq_true h10; omega
            have hK : KLt k us.length := ⟨hkl⟩
            have hN : LsN [GlF pu us, LsF pk 0 ks] pk ks.length ks := ⟨by simp, rfl, by omega⟩
            have hC : CLt [!(!isUser (nthG us k)), decide (0 < (k : Int))] (k - 1) us.length := ⟨fun _ => by omega⟩
            refine c_region ?_; (iterate 5 (refine sq S ?_; clear S; intro a S)); refine wl_nil ?_; refine xtn ?_; refine c_seq ?_
            refine c_drawD [(0, true), (1, false), (2, true), (3, true), (4, true), (5, true), (6, true), (7, true), (8, true), (9, true), (10, true), (11, true), (12, true), (13, true), (14, true), (15, true), (16, true), (17, true), (18, true), (19, true), (20, true), (21, false), (22, false), (23, true), (24, true)] [] S ?_; clear S; intro w S
            refine dq S ?_; clear S; intro a S; refine dl ?_; refine sc S ?_; clear S; intro a w S; refine de S ?_; (iterate 2 (refine dq S ?_; clear S; intro a S)); (iterate 7 (refine dqG S ?_; clear S; intro a S))
            rw [gif_predR (by simp; omega) (by omega)] at S
            (iterate 5 (refine dqG S ?_; clear S; intro a S)); (iterate 2 (refine dq S ?_; clear S; intro a S)); (iterate 3 (refine dqG S ?_; clear S; intro a S)); refine dl ?_; refine gC S ?_; clear S; intro a w S; refine de S ?_; refine dl ?_; refine gC S ?_; clear S; intro a w S; refine de S ?_; refine dqG S ?_; clear S; intro a S; refine dq S ?_; clear S; intro a S; refine dn ?_; refine xtn ?_
            refine c_cond S (fun h12 => ?_) (fun h12 => ?_)
            · refine c_seq ?_; refine c_region ?_; refine sq S ?_; clear S; intro a S; refine wl_nil ?_; refine xtn ?_; refine c_ret ?_; refine xbr ?_; (iterate 2 (refine xtr ?_)); refine xbr ?_; refine xtr ?_
              refine end1 S (fun _ => ⟨false, rfl, ⟨nofun, fun h => ?_⟩⟩)
              obtain ⟨⟨q1, q2⟩, q3, q4⟩ := h.2 k hkl
              have hl := last_us (us := us) (k := k) q1
              rw [decide_eq_true (show lastU us k < nthG us k from q3)] at hl
              have hi : isUser (nthG us k) = true := by simp only [isUser, Bool.and_eq_true, decide_eq_true_eq]; exact ⟨q1, q2⟩
              rw [hi, inB_iff.2 (show (secretL (nthG us k)).t ∈ ks.map LTerm.t from q4)] at h12
              simp at h12 hl
              omega
            · refine c_skip ?_; refine xbn ?_; refine xtn ?_; refine c_region ?_; (iterate 2 (refine sq S ?_; clear S; intro a S)); refine wl_nil ?_; refine xtn ?_
              rw [w64 ((k : Int) + 1) (by omega) (by omega)] at S
              refine ⟨k + 1, S.uu, ⟨hkl, fun j hj => ?_⟩, S.sub _ _, by omega⟩
              by_cases e : j = k
              · subst e
                have hi : isUser (nthG us j) = true := by
                  cases hb : isUser (nthG us j) with
                  | true => rfl
                  | false => rw [hb] at h12; simp at h12
                have hi2 : 1 ≤ nthG us j ∧ nthG us j ≤ 6 := by simpa [isUser] using hi
                have hl := last_us (us := us) (k := j) hi2.1
                have hin : inB (ks.map LTerm.t) (secretL (nthG us j)).t = true := by
                  cases hb : inB (ks.map LTerm.t) (secretL (nthG us j)).t with
                  | true => rfl
                  | false => rw [hb] at h12; simp at h12
                rw [hi, hin] at h12
                refine ⟨hi2, ?_, inB_iff.1 hin⟩
                show lastU us j < nthG us j
                rw [← decide_eq_true_iff (p := lastU us j < nthG us j), hl]
                have h13 : 0 < j → nthG us (j - 1) < nthG us j := by simpa using h12
                simp
                omega
              · exact hup j (by omega)
          · refine c_exit ?_; (iterate 2 (refine xte ?_)); refine xbe ?_; refine xtn ?_; refine c_seq ?_; refine c_region ?_; refine sq S ?_; clear S; intro a S; refine wl_nil ?_; refine xtn ?_; refine c_ret ?_
            refine end1 S (fun _ => ⟨true, rfl, fun _ => ⟨hok, fun j hj => hup j ?_⟩, fun _ => rfl⟩)
            have := of_decide_eq_false h10
            omega
def IntObj (o o' : Obj) : Prop := o' = o ∨ ∃ (cs cs' : Array Value) (T : TypeId) (fr : Nat × Nat), o = .cells cs T fr ∧ o' = .cells cs' T fr ∧ ∀ (i : Nat) (v : Value), cs[i]? = some v → cs'[i]? = some v ∨ ∃ n m, v = .int .i64 n ∧ cs'[i]? = some (.int .i64 m)
theorem IntObj.trans {a b c : Obj} (h : IntObj a b) (k : IntObj b c) : IntObj a c := by
  rcases h with rfl | ⟨cs, cs', T, fr, rfl, rfl, h⟩
  · exact k
  rcases k with rfl | ⟨ds, ds', T', fr', e, rfl, k⟩
  · exact .inr ⟨cs, cs', T, fr, rfl, rfl, h⟩
  injection e with e1 e2 e3
  subst e1 e2 e3
  refine .inr ⟨cs, ds', T, fr, rfl, rfl, fun i v hv => ?_⟩
  rcases h i v hv with h | ⟨n, m, rfl, h⟩
  · exact k i v h
  · rcases k i _ h with k | ⟨n', m', e, k⟩
    · exact .inr ⟨n, m, rfl, k⟩
    · exact .inr ⟨n, m', rfl, k⟩
def Step (B : Nat → Prop) (w0 w : World) : Prop := ∀ k, B k → ∃ o o', w0.heap[k]? = some o ∧ w.heap[k]? = some o' ∧ IntObj o o'
theorem Step.refl {B : Nat → Prop} {w : World} (h : ∀ k, B k → k < w.heap.size) : Step B w w := fun k hk => ⟨_, _, Array.getElem?_eq_getElem (h k hk), Array.getElem?_eq_getElem (h k hk), .inl rfl⟩
theorem Step.trans {B : Nat → Prop} {a b c : World} (h : Step B a b) (k : Step B b c) : Step B a c := fun i hi => by
  obtain ⟨o, o', h1, h2, h3⟩ := h i hi
  obtain ⟨q, q', k1, k2, k3⟩ := k i hi
  rw [h2] at k1
  injection k1 with k1
  subst k1
  exact ⟨o, q', h1, k2, h3.trans k3⟩
def stp (B : Nat → Prop) (w0 : World) : Wk.Item where
  foot := B
  holds := Step B w0
instance stpOk {B : Nat → Prop} {w0 : World} : ItOk (stp B w0) := ⟨fun w1 w2 h h1 k hk => by
  obtain ⟨o, o', e1, e2, e3⟩ := h1 k hk
  exact ⟨o, o', e1, by rw [h k hk]; exact e2, e3⟩, fun w h k hk => by
  obtain ⟨o, o', e1, e2, e3⟩ := h k hk
  exact (Array.getElem?_eq_some_iff.1 e2).1⟩
theorem cell_step {B : Nat → Prop} {w w' : World} (h : Step B w w') (ha : Agree B w w') {ad : Addr} {v : Value} (hc : w.cell? ad = some v) : w'.cell? ad = some v ∨ ∃ n m, v = .int .i64 n ∧ w'.cell? ad = some (.int .i64 m) := by
  by_cases hB : B ad.block
  · obtain ⟨o, o', h1, h2, h3⟩ := h _ hB
    rcases h3 with rfl | ⟨cs, cs', T, fr, rfl, rfl, h4⟩
    · left
      unfold World.cell? at *
      rw [h1] at hc
      rw [h2]; exact hc
    · unfold World.cell? at *
      rw [h1] at hc
      rw [h2]
      simp only at hc ⊢
      by_cases hs : ad.spot.isSome = true
      · rw [if_pos hs] at hc; cases hc
      · rw [if_neg hs] at hc ⊢
        exact h4 _ _ hc
  · left
    have hlt := cell_lt hc
    unfold World.cell? at *
    rw [ha.blk hlt hB]; exact hc
mutual
def Sk : LTerm → LTerm → Prop
  | .mk _ _ _ s p c ks, t => t.text = s ∧ t.p = p ∧ t.cap = c ∧ SkL ks t.kids
def SkL : List LTerm → List LTerm → Prop
  | [], l => l = []
  | k :: ks, l => ∃ k' ks', l = k' :: ks' ∧ Sk k k' ∧ SkL ks ks'
end
mutual
theorem Sk.dpt : ∀ (t t' : LTerm), Sk t t' → dpt t'.t = dpt t.t
  | .mk k u n s p c ks, t', h => by
    rw [Sk] at h
    have := SkL.dpt ks t'.kids h.2.2.2
    rw [t'.t_eq, dpt, LTerm.t_eq, dpt, this]; rfl
theorem SkL.dpt : ∀ (a b : List LTerm), SkL a b → dptL (b.map LTerm.t) = dptL (a.map LTerm.t)
  | [], _, h => by rw [SkL] at h; rw [h]
  | x :: a, _, h => by
    rw [SkL] at h
    obtain ⟨k', ks', rfl, h1, h2⟩ := h
    rw [List.map_cons, List.map_cons, dptL, dptL, Sk.dpt x k' h1, SkL.dpt a ks' h2]
end
mutual
theorem Sk.refl : ∀ t : LTerm, Sk t t
  | .mk _ _ _ _ _ _ ks => by rw [Sk]; exact ⟨rfl, rfl, rfl, SkL.refl ks⟩
theorem SkL.refl : ∀ ts : List LTerm, SkL ts ts
  | [] => by rw [SkL]
  | t :: ts => by rw [SkL]; exact ⟨t, ts, rfl, Sk.refl t, SkL.refl ts⟩
end
theorem step_new {B : Nat → Prop} {w w' : World} (h : Step B w w') : ∀ b cs T, B b → w.heap[b]? = some (.cells cs T (0, 0)) → B b ∧ ∃ cs', w'.heap[b]? = some (.cells cs' T (0, 0)) := fun b cs T hb hc => by
  obtain ⟨o, o', h1, h2, h3⟩ := h b hb
  rw [hc] at h1
  injection h1 with h1
  subst h1
  refine ⟨hb, ?_⟩
  rcases h3 with rfl | ⟨ds, ds', T', fr, e, rfl, -⟩
  · exact ⟨_, h2⟩
  · injection e with e1 e2 e3
    subst e1 e2 e3
    exact ⟨_, h2⟩
theorem step_set {B : Nat → Prop} {w0 w : World} {b o : Nat} {cs : Array Value} {T : TypeId} {k m : Int} (h : Step B w0 w) (hb : w.heap[b]? = some (.cells cs T (0, 0))) (hc : cs[o]? = some (.int .i64 k)) : Step B w0 (w.setRow b (cs.toList.take o ++ [Value.int .i64 m] ++ cs.toList.drop (o + 1)).toArray) := by
  refine h.trans fun i hi => ?_
  obtain ⟨_, o1, _, h2, _⟩ := h i hi
  have ho : o < cs.size := (Array.getElem?_eq_some_iff.1 hc).1
  by_cases hib : i = b
  · subst hib
    refine ⟨_, _, hb, setRow_heap w i cs _ T _ hb, .inr ⟨_, _, _, _, rfl, rfl, fun j v hj => ?_⟩⟩
    have hj2 : cs.toList[j]? = some v := by rw [Array.getElem?_toList]; exact hj
    have hlen : (cs.toList.take o).length = o := by rw [List.length_take, Array.length_toList]; omega
    rw [List.getElem?_toArray, List.append_assoc]
    rcases Nat.lt_trichotomy j o with hjo | rfl | hjo
    · left
      rw [List.getElem?_append_left (by omega), List.getElem?_take_of_lt hjo]; exact hj2
    · right
      rw [hc] at hj
      injection hj with hj
      subst hj
      exact ⟨k, m, rfl, by rw [List.getElem?_append_right (by omega), hlen, Nat.sub_self]; rfl⟩
    · left
      rw [List.getElem?_append_right (by omega), hlen]
      obtain ⟨d, rfl⟩ : ∃ d, j = o + 1 + d := ⟨j - (o + 1), by omega⟩
      rw [show o + 1 + d - o = d + 1 from by omega]
      simp only [List.singleton_append, List.getElem?_cons_succ, List.getElem?_drop]
      exact hj2
  · have ha := Agree.setRow (M := fun k => k = b) w b (cs.toList.take o ++ [Value.int .i64 m] ++ cs.toList.drop (o + 1)).toArray rfl
    refine ⟨o1, o1, h2, ?_, .inl rfl⟩
    rw [ha.blk (Array.getElem?_eq_some_iff.1 h2).1 hib]; exact h2
section
variable {P : Program} {r : Option Nat} {ops : Array Oper} {Q : Exit → Act → World → Prop} {w0 : World} {M0 : Nat → Prop} {ds : List Deferred} {a : Act} {w : World} {l l' : List Value} {bs : List Wk.Item} {fs : List (World → Prop)}
  {d : Option Nat} {ty t : TypeId} {pos : String} {af : Array Edge} {rest : List Oper} {x y : Operand} {z : Value} {by_ : Nat}
theorem sraw (B : Nat → Prop) (wB : World) {X : Addr} {b o : Nat} {cs : Array Value} {T : TypeId} {k m : Int} (S : St w0 M0 ds a w l bs fs) [Ev ⟨[], l⟩ x (.pointer (some X))] [Ev ⟨[], l⟩ y (.int .i64 m)] [TI P t z 1 by_] [hrep : ReplI bs (stp B wB) (stp B wB) bs] [hi : HasIt bs (stp B wB)] [hp : PutO l d undef l']
    (hX : X = ⟨b, o, none⟩) (hb : w.heap[b]? = some (.cells cs T (0, 0))) (hc : cs[o]? = some (.int .i64 k)) (hB : B b)
    (K : ∀ a w, St w0 M0 ds a w l' bs fs → WL P r ops Q rest a w) : WL P r ops Q (⟨d, .store t x y, ty, pos, af, none⟩ :: rest) a w := by
  refine wl_plain rfl ?_
  rw [semAt_nd rfl]
  have ho : o < cs.size := (Array.getElem?_eq_some_iff.1 hc).1
  have hrun := run_storeCells_at (P := P) b o T [Value.int .i64 m] 0 cs w hb (by simp only [List.length_singleton]; omega) (by intro v hv; obtain rfl := List.mem_singleton.1 hv; rfl)
  simp only [Nat.add_zero, List.length_singleton] at hrun
  have e1 : (xop a.eval (.store t x y) ty).run P w = .ok .skip (w.setRow b (cs.toList.take o ++ [Value.int .i64 m] ++ cs.toList.drop (o + 1)).toArray) := by
    have hx := S.fr.ev (x := x) (v := .pointer (some X))
    rw [hX] at hx
    have hcs : (Value.int .i64 m).cells = #[Value.int .i64 m] := rfl
    simp [xop, execOp, Instr.storeAt, hx, S.fr.ev (x := y) (v := .int .i64 m), Instr.sureAddr, storeVar, run_size, Sem.run_bind, hcs, hrun]
  simp only [e1, Oper.uponIn]
  have S' := S.put (d := d) (v := undef) (l' := l')
  have hst : Step B wB w := S.it (stp B wB)
  exact K _ _ (S.reput (x := stp B wB) (y := stp B wB) S'.slots S'.defers rfl (Agree.setRow w b _ hB) (step_set hst hb hc) (fun k h => .inl h) (stpOk.lt _ (step_set hst hb hc)) stpOk.loc)
end
theorem int_at {B : Nat → Prop} {w0 w : World} (hst : Step B w0 w) (ha : Agree B w0 w) {e : TypeId} {sz n c : Nat} {p : Option Addr} {xs : List Value} (h : w0.ownsRow 0 e sz (.slice p n c) n xs) (hB : ∀ ad, p = some ad → B ad.block) {o : Nat} {k : Int} (ho : xs[o]? = some (.int .i64 k)) :
    ∃ b cs T k', rAddr p o = ⟨b, o, none⟩ ∧ w.heap[b]? = some (.cells cs T (0, 0)) ∧ cs[o]? = some (.int .i64 k') ∧ B b := by
  have hn : 0 < n := by
    have h1 := (List.getElem?_eq_some_iff.1 ho).1
    rw [h.1] at h1
    rcases Nat.eq_zero_or_pos n with h0 | h0
    · rw [h0] at h1; simp at h1
    · exact h0
  obtain ⟨g, cur, rfl, hg, _, _, _, _⟩ := own_cells h hn
  have hBg : B g := hB _ rfl
  obtain ⟨_, cs, hc⟩ := step_new hst g cur e hBg hg
  have hcell := own_cell (j := 0) h (o := o) (by simpa using ho)
  rw [show (rAddr (some ⟨g, 0, none⟩) o).add 0 = ⟨g, o, none⟩ from by rw [rAddr, Option.getD_some, add_lit]; rfl] at hcell
  refine ⟨g, cs, e, ?_⟩
  rcases cell_step hst ha hcell with h1 | ⟨_, m, _, h1⟩
  · refine ⟨k, by rw [rAddr, Option.getD_some, add_lit], hc, ?_, hBg⟩
    unfold World.cell? at h1; rw [hc] at h1; simpa using h1
  · refine ⟨m, by rw [rAddr, Option.getD_some, add_lit], hc, ?_, hBg⟩
    unfold World.cell? at h1; rw [hc] at h1; simpa using h1
theorem slice_at {B : Nat → Prop} {w0 w : World} (hst : Step B w0 w) (ha : Agree B w0 w) {e : TypeId} {sz n c : Nat} {p : Option Addr} {xs : List Value} (h : w0.ownsRow 0 e sz (.slice p n c) n xs) {o : Nat} {q : Option Addr} {m d : Nat} (ho : xs[o]? = some (.slice q m d)) : w.cell? (rAddr p o) = some (.slice q m d) := by
  have hcell := own_cell (j := 0) h (o := o) (by simpa using ho)
  have e0 : (rAddr p o).add 0 = rAddr p o := by unfold Addr.add; split <;> simp_all
  rw [e0] at hcell
  rcases cell_step hst ha hcell with h1 | ⟨_, _, h1, _⟩
  · exact h1
  · cases h1
theorem spoil22_c (os : List LTerm) (p : Option Addr) (c B0 : Nat) (w0 : World) (hrow : w0.ownsRow 0 37 5 (.slice p os.length c) os.length (encL os)) (hp : ∀ ad, p = some ad → B0 ≤ ad.block) (hall : AllO B0 os w0) :
    Ret Try.prog 15 [.slice p os.length c] w0 (fun k => B0 ≤ k ∧ k < w0.heap.size) fun _ w' => w0.heap.size ≤ w'.heap.size := by
  obtain ⟨B, hBd⟩ : ∃ B : Nat → Prop, B = fun k => B0 ≤ k ∧ k < w0.heap.size := ⟨_, rfl⟩
  rw [← hBd]
  have hB : ∀ k, B k → k < w0.heap.size := fun k h => by rw [hBd] at h; exact h.2
  have hcap : os.length ≤ maxLen := Nat.le_trans (own_le hrow) (own_cap hrow)
  have hL : os.length ≤ 9223372036854775807 := by unfold maxLen at hcap; omega
  have hpB : ∀ ad, p = some ad → B ad.block := fun ad h => by rw [hBd]; exact ⟨hp ad h, row_foot_lt hrow _ ⟨ad, h, rfl⟩⟩
  have hW : Wd w0 B w0 [stp B w0] [] := ⟨Agree.refl _ _, fun it hi => by obtain rfl := List.mem_singleton.1 hi; exact Step.refl hB, fun it hi k hk => by obtain rfl := List.mem_singleton.1 hi; exact hB k hk, fun it hi _ k hk => by obtain rfl := List.mem_singleton.1 hi; exact .inl hk, by simp, by simp, fun it hi => by obtain rfl := List.mem_singleton.1 hi; exact stpOk.loc⟩
  refine enter Try.func15 rfl rfl (hW) (fun a S => ?_)
  simp only [Try.ntmps15, List.length_cons, List.length_nil, Nat.reduceAdd, Nat.reduceSub, List.replicate_succ, List.replicate_zero, List.cons_append, List.nil_append] at S
  refine c_seq ?_; refine c_region ?_; (iterate 3 (refine sq S ?_; clear S; intro a S)); refine wl_nil ?_; refine xtn ?_; refine c_block ?_
  refine c_fore1 S (fun (i : Nat) uu => [(2, uu 2), (0, uu 3), (2, .int .i64 (i : Nat)), (0, uu 7), (0, uu 8), (0, uu 9), (0, uu 10), (0, uu 11), (0, uu 12), (0, uu 13), (0, uu 14), (0, uu 15), (0, uu 16), (0, uu 17), (0, uu 18), (0, uu 19), (0, uu 20), (0, uu 21), (0, uu 22), (0, uu 23), (0, uu 24), (0, uu 25), (0, uu 26), (0, uu 27), (0, uu 28), (0, uu 29), (0, uu 30), (0, uu 31)]) (fun (i : Nat) => [stp B w0]) (fun (i : Nat) => []) (fun (i : Nat) => i ≤ os.length) (fun (i : Nat) => os.length - i) (0) ?_ S.uu ?_ ?_
  · exact Nat.zero_le _
  · first | exact S | exact S.sub _ _
  · clear S; rintro i uu a w hi S
    refine c_seq ?_; refine c_region ?_; refine sq S ?_; clear S; intro a S; refine wl_nil ?_; refine xtn ?_; refine c_seq ?_
    refine c_cond S (fun h1 => ?_) (fun h1 => ?_)
    · refine c_skip ?_; refine xtn ?_; refine c_seq ?_; refine c_block ?_; refine c_seq ?_
      have hil : i < os.length := by have := of_decide_eq_true h1; omega
      have hK : KLt i os.length := ⟨hil⟩
      have hPS : PS p := PS.of hrow (by omega)
      obtain ⟨x, hx⟩ : ∃ x, x = nthL os i := ⟨_, rfl⟩
      have hxi : os[i]? = some x := by rw [hx]; exact nth_get hil
      obtain ⟨hxin, hxown, hxn⟩ := hall x (List.mem_of_getElem? hxi)
      have hxc : x.kids.length ≤ maxLen := Nat.le_trans (own_le hxown) (own_cap hxown)
      have hxL : x.kids.length ≤ 9223372036854775807 := by unfold maxLen at hxc; omega
      have hxB : ∀ ad, x.p = some ad → B ad.block := fun ad h => by rw [hBd]; exact ⟨hxn ad h, row_foot_lt hxown _ ⟨ad, h, rfl⟩⟩
      obtain ⟨g, cur, hpg, -⟩ := own_cells hrow (by omega)
      have hga : ∀ o, rAddr p o = ⟨g, o, none⟩ := fun o => by rw [rAddr, hpg, Option.getD_some, add_lit]
      have hkc : (encL os)[i * 5 + 4]? = some (.slice x.p x.kids.length x.cap) := encL_at hxi rfl
      refine c_region ?_; (iterate 2 (refine sq S ?_; clear S; intro a S)); refine wl_nil ?_; refine xtn ?_; (iterate 2 (refine c_seq ?_)); refine c_region ?_; (iterate 3 (refine sq S ?_; clear S; intro a S))
      rw [hga] at S
      refine sq S ?_; clear S; intro a S
      refine sl1 (.slice x.p x.kids.length x.cap) S (by rw [← hga]; exact slice_at (S.it (stp B w0)) S.wd.agree hrow hkc) ?_; clear S; intro a S
      (iterate 2 (refine sq S ?_; clear S; intro a S)); refine wl_nil ?_; refine xtn ?_; refine c_block ?_
      refine c_fore1 S (fun (k : Nat) uu => [(3, uu 3), (11, .int .i64 (k : Nat)), (0, uu 16), (0, uu 17), (0, uu 18), (0, uu 19), (0, uu 20), (0, uu 21), (0, uu 22), (0, uu 23), (0, uu 24), (0, uu 25), (0, uu 26)]) (fun (k : Nat) => [stp B w0]) (fun (k : Nat) => []) (fun (k : Nat) => k ≤ x.kids.length) (fun (k : Nat) => x.kids.length - k) (0) ?_ S.uu ?_ ?_
      · exact Nat.zero_le _
      · first | exact S | exact S.sub _ _
      · clear S; rintro k uu a w hk S
        refine c_seq ?_; refine c_region ?_; refine sq S ?_; clear S; intro a S; refine wl_nil ?_; refine xtn ?_; refine c_seq ?_
        refine c_cond S (fun h4 => ?_) (fun h4 => ?_)
        · refine c_skip ?_; refine xtn ?_; refine c_seq ?_; refine c_block ?_; refine c_seq ?_
          have hkl : k < x.kids.length := by have := of_decide_eq_true h4; omega
          have hK2 : KLt k x.kids.length := ⟨hkl⟩
          have hPS2 : PS x.p := PS.of hxown (by omega)
          obtain ⟨g2, cur2, hpg2, -⟩ := own_cells hxown (by omega)
          have hgb : ∀ o, rAddr x.p o = ⟨g2, o, none⟩ := fun o => by rw [rAddr, hpg2, Option.getD_some, add_lit]
          have hcell : (encL x.kids)[k * 5]? = some (.int .i64 (nthL x.kids k).kind) := encL_at (j := 0) (nth_get hkl) rfl
          refine c_region ?_; (iterate 2 (refine sq S ?_; clear S; intro a S)); refine wl_nil ?_; refine xtn ?_; refine c_region ?_; (iterate 3 (refine sq S ?_; clear S; intro a S))
          rw [hga] at S
          refine sq S ?_; clear S; intro a S
          refine sl1 (.slice x.p x.kids.length x.cap) S (by rw [← hga]; exact slice_at (S.it (stp B w0)) S.wd.agree hrow hkc) ?_; clear S; intro a S
          (iterate 2 (refine sq S ?_; clear S; intro a S))
          rw [hgb] at S
          refine sq S ?_; clear S; intro a S
          obtain ⟨b, cs, T, k', q1, q2, q3, q4⟩ := int_at (S.it (stp B w0)) S.wd.agree hxown hxB hcell
          rw [hgb] at q1
          refine sraw B w0 S q1 q2 q3 q4 ?_; clear S; intro a w S
          refine wl_nil ?_; refine xbn ?_; refine xtn ?_; refine c_region ?_; (iterate 2 (refine sq S ?_; clear S; intro a S)); refine wl_nil ?_; refine xtn ?_
          rw [w64 ((k : Int) + 1) (by omega) (by omega)] at S
          exact ⟨k + 1, S.uu, hkl, S.sub _ _, by omega⟩
        · refine c_exit ?_; (iterate 2 (refine xte ?_)); refine xbe ?_; refine xtn ?_; refine c_region ?_; (iterate 3 (refine sq S ?_; clear S; intro a S))
          rw [hga] at S
          refine sq S ?_; clear S; intro a S
          have hcell : (encL os)[i * 5]? = some (.int .i64 x.kind) := encL_at (j := 0) hxi rfl
          obtain ⟨b, cs, T, k', q1, q2, q3, q4⟩ := int_at (S.it (stp B w0)) S.wd.agree hrow hpB hcell
          rw [hga] at q1
          refine sraw B w0 S q1 q2 q3 q4 ?_; clear S; intro a w S
          refine wl_nil ?_; refine xbn ?_; refine xtn ?_; refine c_region ?_; (iterate 2 (refine sq S ?_; clear S; intro a S)); refine wl_nil ?_; refine xtn ?_
          rw [w64 ((i : Int) + 1) (by omega) (by omega)] at S
          exact ⟨i + 1, S.uu, hil, S.sub _ _, by omega⟩
    · refine c_exit ?_; (iterate 2 (refine xte ?_)); refine xbe ?_
      have hsz := S.wd.agree.size
      exact end0 S (fun _ => hsz)
def AgF (wB : World) : World → Prop := fun w => Agree (fun _ => False) wB w
def RwF (p : Option Addr) (c : Nat) (os : List LTerm) : World → Prop := fun w => w.ownsRow 0 37 5 (.slice p os.length c) os.length (encL os)
theorem rw_st {w : World} {p : Option Addr} {c : Nat} {os : List LTerm} (h : w.ownsRow 0 37 5 (.slice p os.length c) os.length (encL os)) : Stable (fun _ => False) w (RwF p c os) := fun w' hw' =>
  row_loc 37 5 p os.length c (encL os) w w' (fun k ⟨ad, h1, h2⟩ => hw'.blk (row_foot_lt h k ⟨ad, h1, h2⟩) (fun h => h)) h
theorem stab_new {wB w : World} (hA : Agree (fun _ => False) wB w) {Φ : World → Prop} (h : Stable (fun _ => False) wB Φ) {M : Nat → Prop} (hM : ∀ k, M k → wB.heap.size ≤ k) : Stable M w Φ := fun w' hw' =>
  h w' (hA.trans' hw' fun k hk hm => absurd hk (by have := hM k hm; omega))
theorem respoil {w0 : World} {M0 : Nat → Prop} {ds : List Deferred} {a : Act} {w wB : World} {l : List Value} {bs : List Wk.Item} {fs fs' : List (World → Prop)} (S : St w0 M0 ds a w l bs fs) {B : Nat → Prop} (hA : Agree (fun _ => False) wB w) (hB : ∀ k, B k → wB.heap.size ≤ k ∧ k < w.heap.size) (h0 : w0.heap.size ≤ wB.heap.size) (hf : ∀ Φ ∈ fs', Stable (fun _ => False) wB Φ) : St w0 M0 ds a w l [stp B w] fs' :=
  ⟨S.slots, S.defers, S.wd.agree, fun it hi => by obtain rfl := List.mem_singleton.1 hi; exact Step.refl fun k hk => (hB k hk).2, fun it hi k hk => by obtain rfl := List.mem_singleton.1 hi; exact (hB k hk).2, fun it hi _ k hk => by obtain rfl := List.mem_singleton.1 hi; exact .inr (Nat.le_trans h0 (hB k hk).1), by simp, fun Φ hΦ => stab_new hA (hf Φ hΦ) fun k ⟨it, hi, hk⟩ => by
    obtain rfl := List.mem_singleton.1 hi
    exact (hB k hk).1, fun it hi => by obtain rfl := List.mem_singleton.1 hi; exact stpOk.loc⟩
class CanOk (fs : List (World → Prop)) (p : Option Addr) (n : Nat) (t : LTerm) (xs : outParam (List LTerm)) : Prop where
  mem : LsF p 0 xs ∈ fs
  len : xs.length = n
  le : n ≤ 500
  good : ∀ x ∈ xs, Good x.t
  goodt : Good t.t
instance callCan7 {fs : List (World → Prop)} {bs : List Wk.Item} {p : Option Addr} {n c : Nat} {xs : List LTerm} {t : LTerm} [h1 : CanOk fs p n t xs] [h2 : HasT fs t] : CallV Try.prog 14 [.slice p n c, vL t] bs fs (.bool (derB (xs.map LTerm.t) t.t)) := ⟨fun w m => by
  have := can7_c xs t p c w (by rw [h1.len]; exact h1.le) h1.good h1.goodt ((m.facts _ h1.mem).less fun _ _ h => h.elim) ((h2.of _ _ m.facts).less fun _ _ h => h.elim)
  rw [h1.len] at this
  exact this⟩
theorem canslaw_c (x : LAtk) (ls : List LTerm) (pl : Option Addr) (cl : Nat) (w0 : World) (hx : AtkIn (fun _ => False) w0 x) (hll : ls.length ≤ 9223372036854775807) (hl : Stable (fun _ => False) w0 (LsF pl 0 ls)) :
    Ret Try.prog 3 [vAtk x, .slice pl ls.length cl] w0 (fun _ => False) fun v _ => v = .bool true := by
  have hkx : x.known.xs.length ≤ 9223372036854775807 := by have := hx.k1; have := hx.k2; unfold maxLen at this; omega
  refine enter Try.func3 rfl rfl (Wd.begin (fs := [SlF x.users.p (encL x.users.xs), LsF x.known.p 0 x.known.xs, LsF pl 0 ls]) (by simp; exact ⟨hx.u, hx.k, hl⟩)) (fun a S => ?_)
  simp only [Try.ntmps3, List.length_cons, List.length_nil, Nat.reduceAdd, Nat.reduceSub, List.replicate_succ, List.replicate_zero, List.cons_append, List.nil_append] at S
  refine c_seq ?_; refine c_region ?_
  refine sa S ?_; clear S; intro b2 a w S
  refine sq S ?_; clear S; intro a S; refine wl_nil ?_; refine xtn ?_; (iterate 2 (refine c_seq ?_)); refine c_region ?_
  refine sr S (wakes22_c _) ?_; clear S; rintro _ a w rfl S
  refine sq S ?_; clear S; intro a S
  rw [show (!true) = false from rfl] at S
  refine wl_nil ?_; refine xtn ?_; refine c_condF S ?_; refine c_skip ?_; refine xtn ?_; refine c_seq ?_; refine c_region ?_; refine sq S ?_; clear S; intro a S
  refine sr S (short_c x.users.xs x.known.xs x.users.p x.known.p x.users.cap x.known.cap _ w (foots_lt S) hx.u1 hkx (S.wd.facts (SlF x.users.p (encL x.users.xs)) (by simp)) (S.wd.facts (LsF x.known.p 0 x.known.xs) (by simp))) ?_; clear S; rintro _ a w ⟨pu, cu, pk, ck, ks, rfl, hks, q1, q2, q3, q4, hfu, hfk⟩ S
  replace S := (S.add hfu).add hfk
  generalize hus : x.users.xs.take 8 = us at S q1
  have hl1 : us.length ≤ 8 := by rw [← hus]; simp; omega
  have hl2 : ks.length ≤ 501 := by have h1 := congrArg List.length hks; have h2 := short_len (x.known.xs.map LTerm.t); rw [List.length_map] at h1; omega
  refine sw S ?_; clear S; intro a w S; refine wl_nil ?_; refine xtn ?_; refine c_seq ?_; refine c_region ?_; refine sq S ?_; clear S; intro a S
  refine sr S (short_c us ks pu pk cu ck _ w (foots_lt S) q1 (by omega) (S.wd.facts (SlF pu (encL us)) (by simp)) (S.wd.facts (LsF pk 0 ks) (by simp))) ?_; clear S; rintro _ a w ⟨pw, cw, pk2, ck2, kw, rfl, hkw, r1, r2, r3, r4, hfu, hfk⟩ S
  replace S := (S.add hfu).add hfk
  rw [show us.take 8 = us from List.take_of_length_le (by omega)] at S r1
  have hkk : kw.map LTerm.t = ks.map LTerm.t := by rw [hkw, hks, shortK_idem]
  have hkl : kw.length = ks.length := by have := congrArg List.length hkk; simpa using this
  refine sa S ?_; clear S; intro b5 a w S
  refine sw S ?_; clear S; intro a w S; refine wl_nil ?_; refine xtn ?_; refine c_seq ?_; refine c_region ?_; refine sq S ?_; clear S; intro a S
  refine sr S (right22_c us kw pw pk2 cw ck2 _ (by omega) (by omega) r2 (S.mem.fact0 (SlF pw (encL us))) (S.mem.fact0 (LsF pk2 0 kw))) ?_; clear S; rintro _ a w ⟨br, rfl, hbr⟩ S
  rw [hkk] at hbr
  refine sq S ?_; clear S; intro a S; refine wl_nil ?_; refine xtn ?_; refine c_seq ?_; refine c_region ?_; refine sq S ?_; clear S; intro a S
  refine sr S (terms_c ls 6 pl cl _ w (by omega) (foots_lt S) hll (S.wd.facts (LsF pl 0 ls) (by simp))) ?_; clear S; rintro _ a w ⟨p6, c6, ins, rfl, hins, i1, i2, hfi⟩ S
  replace S := S.add hfi
  refine sq S ?_; clear S; intro a S
  refine sr S (terms_c ls 6 pl cl _ w (by omega) (foots_lt S) hll (S.wd.facts (LsF pl 0 ls) (by simp))) ?_; clear S; rintro _ a w ⟨p7, c7, ows, rfl, hows, o1, o2, hfo⟩ S
  replace S := S.add hfo
  generalize hMs : ((ls.take 6).map LTerm.t).map (smallT 6) = Ms at hins hows
  have hMl : Ms.length ≤ 6 := by rw [← hMs]; simp; omega
  have hil : ins.length = Ms.length := by have := congrArg List.length hins; simpa using this
  have hol : ows.length = Ms.length := by have := congrArg List.length hows; simpa using this
  (iterate 2 (refine sq S ?_; clear S; intro a S)); refine wl_nil ?_; refine xtn ?_; refine c_seq ?_
  replace S := (S.boxToF b2).boxToF b5
  replace S := S.sub [] [BoxF b5 25 [.slice pw us.length cw, .slice pk2 kw.length ck2], BoxF b2 25 [.slice pu us.length cu, .slice pk ks.length ck], LsF p7 0 ows, LsF p6 0 ins, LsF pk2 0 kw, SlF pw (encL us), LsF pk 0 ks, SlF pu (encL us)]
  obtain ⟨wB, hwB⟩ : ∃ wB, wB = w := ⟨_, rfl⟩
  have hF0 : ∀ Φ ∈ ([BoxF b5 25 [.slice pw us.length cw, .slice pk2 kw.length ck2], BoxF b2 25 [.slice pu us.length cu, .slice pk ks.length ck], LsF p7 0 ows, LsF p6 0 ins, LsF pk2 0 kw, SlF pw (encL us), LsF pk 0 ks, SlF pu (encL us)] : List (World → Prop)), Stable (fun _ => False) wB Φ := fun Φ hΦ => by rw [hwB]; exact (S.wd.facts Φ hΦ).less fun k _ h => h.elim
  have hw0B : w0.heap.size ≤ wB.heap.size := by rw [hwB]; exact S.wd.agree.size
  replace S := S.add (Φ := AgF wB) (fun w' hw' => by rw [hwB]; exact hw'.mono fun k _ ⟨_, h, _⟩ => by cases h)
  refine c_region ?_; (iterate 2 (refine sq S ?_; clear S; intro a S))
  have hlk := leaks_c us ks ins pu pk p6 cu ck c6 w (by omega) (by omega) (by omega) (S.mem.fact0 (SlF pu (encL us))) (S.mem.fact0 (LsF pk 0 ks)) (S.mem.fact0 (LsF p6 0 ins))
  have hBz : w.heap.size = wB.heap.size := by rw [hwB]
  rw [hBz] at hlk
  refine sr S hlk ?_; clear S hlk; rintro _ a w ⟨e, p9, c9, os, rfl, hl1', hl2', hl3', hrow, hpn, hall⟩ S
  have hwz : ∀ k, wB.heap.size ≤ k → wB.heap.size ≤ k := fun _ h => h
  replace S := S.add (Φ := AllO wB.heap.size os) (hall.less fun k _ h => h.elim (fun _ h => by cases h.1))
  replace S := S.add (Φ := RwF p9 c9 os) ((rw_st hrow).less fun k _ h => h.elim (fun _ h => by cases h.1))
  replace S := S.add (Φ := LsF p9 0 os) ((ls_of_own hrow (fun x hx => hall.imp fun _ h => (h x hx).1) (fun _ _ h => h)).less fun k _ h => h.elim (fun _ h => by cases h.1))
  have hins6 : ins.length ≤ 6 := by omega
  have hr1 : br = false → e = 320 ∧ os = [] := fun h => hl1' (fun hR => by rw [hbr.2 hR] at h; cases h)
  have hos : os.length ≤ 6 := by
    by_cases hR : RightA (ks.map LTerm.t) us
    · by_cases hG : ∀ t ∈ ins.map LTerm.t, Good t
      · have h1 := congrArg List.length (hl3' hR hG).2
        have h2 := List.length_filter_le (derB (ks.map LTerm.t)) (ins.map LTerm.t)
        rw [List.length_map] at h1 h2
        omega
      · rw [(hl2' hR hG).2]; simp
    · rw [(hl1' hR).2]; simp
  (iterate 5 (refine sq S ?_; clear S; intro a S)); refine wl_nil ?_; refine xtn ?_
  refine c_mrge0 S (fun  uu => [(4, uu 4), (28, uu 33), (0, uu 34), (0, uu 35), (0, uu 36), (0, uu 37), (0, uu 38), (0, uu 39), (0, uu 40), (0, uu 41), (0, uu 42), (0, uu 43), (0, uu 44), (0, uu 45), (0, uu 46), (0, uu 47), (0, uu 48), (0, uu 49), (0, uu 50), (0, uu 51), (0, uu 52), (0, uu 53), (0, uu 54), (0, uu 55), (0, uu 56), (0, uu 57), (0, uu 58), (0, uu 59), (0, uu 60), (0, uu 61), (0, uu 62), (0, uu 63)]) ([]) ([LsF p9 0 os, RwF p9 c9 os, AllO wB.heap.size os, AgF wB, BoxF b5 25 [.slice pw us.length cw, .slice pk2 kw.length ck2], BoxF b2 25 [.slice pu us.length cu, .slice pk ks.length ck], LsF p7 0 ows, LsF p6 0 ins, LsF pk2 0 kw, SlF pw (encL us), LsF pk 0 ks, SlF pu (encL us)]) (True) ?_ ?_
  · refine c_block ?_; refine c_seq ?_; refine c_region ?_; (iterate 3 (refine sq S ?_; clear S; intro a S)); refine wl_nil ?_; refine xtn ?_
    refine c_cond S (fun h10 => ?_) (fun h10 => ?_)
    · refine c_seq ?_; refine c_region ?_; (iterate 3 (refine sq S ?_; clear S; intro a S)); (iterate 3 (refine gQ S ?_; clear S; intro a S)); refine sq S ?_; clear S; intro a S; refine wl_nil ?_; refine xtn ?_
      refine c_cond S (fun h11 => ?_) (fun h11 => ?_)
      · refine c_seq ?_; refine c_region ?_; refine sq S ?_; clear S; intro a S; refine wl_nil ?_; refine xtn ?_; refine c_ret ?_; refine xbr ?_; refine xtr ?_
        exfalso
        have hbf : br = false := by simpa using h10
        obtain ⟨he, ho⟩ := hr1 hbf
        simp [he, ho] at h11
      · refine c_skip ?_; refine xbn ?_; refine xtn ?_
        exact ⟨S.uu, trivial, S.sub _ _⟩
    · refine c_seq ?_
      have hbt : br = true := by simpa using h10
      have hR : RightA (ks.map LTerm.t) us := hbr.1 hbt
      refine c_region ?_; refine sq S ?_; clear S; intro a S
      refine sr S (may22_c ows p7 c7 _ (by omega) (S.mem.fact0 (LsF p7 0 ows))) ?_; clear S; rintro _ a w ⟨bm, rfl, hbm⟩ S
      rw [hows, ← hins] at hbm
      (iterate 2 (refine sq S ?_; clear S; intro a S)); refine wl_nil ?_; refine xtn ?_
      refine c_cond S (fun h13 => ?_) (fun h13 => ?_)
      · refine c_seq ?_; refine c_region ?_; (iterate 3 (refine sq S ?_; clear S; intro a S)); (iterate 3 (refine gQ S ?_; clear S; intro a S)); refine sq S ?_; clear S; intro a S; refine wl_nil ?_; refine xtn ?_
        refine c_cond S (fun h14 => ?_) (fun h14 => ?_)
        · refine c_seq ?_; refine c_region ?_; refine sq S ?_; clear S; intro a S; refine wl_nil ?_; refine xtn ?_; refine c_ret ?_; refine xbr ?_; refine xtr ?_
          exfalso
          have hmf : bm = false := by simpa using h13
          obtain ⟨he, ho⟩ := hl2' hR (fun h => by rw [hbm.2 h] at hmf; cases hmf)
          simp [he, ho] at h14
        · refine c_skip ?_; refine xbn ?_; refine xtn ?_
          exact ⟨S.uu, trivial, S.sub _ _⟩
      · refine c_seq ?_
        have hmt : bm = true := by simpa using h13
        have hG := hbm.1 hmt
        obtain ⟨he, ho⟩ := hl3' hR hG
        refine c_region ?_; (iterate 3 (refine sq S ?_; clear S; intro a S))
        refine gS S (fun hs S => ?_) (fun hs S => ?_)
        · refine gF' S ?_; clear S; intro a S; (iterate 5 (refine gF' S ?_; clear S; intro a S)); refine sq S ?_; clear S; intro a S; refine wl_nil ?_; refine xtn ?_; refine c_condT S ?_; refine c_seq ?_; refine c_region ?_; refine sq S ?_; clear S; intro a S; refine wl_nil ?_; refine xtn ?_; refine c_ret ?_; refine xbr ?_; refine xtr ?_
          exfalso
          simp [he] at hs
        · refine gT' S ?_; refine sq S ?_; clear S; intro a S; refine gT' S ?_; refine sq S ?_; clear S; intro a S; refine gT' S ?_; refine sq S ?_; clear S; intro a S; refine gT' S ?_
          refine sr S (leaks22_c us kw ows pw pk2 p7 cw ck2 c7 _ (by rw [hkk]; exact hR) (by omega) (by rw [hows, ← hins]; exact hG) (S.mem.fact0 (LsF pk2 0 kw)) (S.mem.fact0 (LsF p7 0 ows))) ?_; clear S; rintro _ a w ⟨p8, c8, os2, rfl, ho2, hf8, hl8⟩ S
          rw [hkk, hows, ← hins, ← ho] at ho2
          refine gT' S ?_
          refine sr S (rsameall_c p9 p8 c9 c8 os os2 _ (by omega) (S.mem.fact0 (LsF p9 0 os)) hf8) ?_; clear S; rintro _ a w rfl S
          rw [ho2, sameLF_refl] at S
          refine gT' S ?_; (iterate 2 (refine sq S ?_; clear S; intro a S)); refine wl_nil ?_; refine xtn ?_
          refine c_cond S (fun h8 => ?_) (fun h8 => ?_)
          · refine c_seq ?_; refine c_region ?_; refine sq S ?_; clear S; intro a S; refine wl_nil ?_; refine xtn ?_; refine c_ret ?_; refine xbr ?_; refine xtr ?_
            exfalso
            simp at h8
          · refine c_skip ?_; refine xbn ?_; refine xtn ?_
            exact ⟨S.uu, trivial, S.sub _ _⟩
  · clear S; rintro  uu a w - S
    (iterate 2 (refine c_seq ?_)); refine c_region ?_; (iterate 3 (refine sq S ?_; clear S; intro a S)); refine wl_nil ?_; refine xtn ?_; refine c_block ?_
    refine c_fore1 S (fun (k : Nat) uu => [(4, uu 4), (6, uu 11), (0, uu 12), (0, uu 13), (0, uu 14), (51, .int .i64 (k : Nat)), (0, uu 67), (0, uu 68), (0, uu 69), (0, uu 70), (0, uu 71), (0, uu 72), (0, uu 73), (0, uu 74), (0, uu 75), (0, uu 76), (0, uu 77), (0, uu 78), (0, uu 79), (0, uu 80), (0, uu 81), (0, uu 82), (0, uu 83), (0, uu 84), (0, uu 85), (0, uu 86), (0, uu 87), (0, uu 88), (0, uu 89), (0, uu 90), (0, uu 91), (0, uu 92), (0, uu 93), (0, uu 94), (0, uu 95), (0, uu 96), (0, uu 97), (0, uu 98), (0, uu 99), (0, uu 100), (0, uu 101), (0, uu 102), (0, uu 103), (0, uu 104), (0, uu 105), (0, uu 106), (0, uu 107), (0, uu 108), (0, uu 109), (0, uu 110)]) (fun (k : Nat) => []) (fun (k : Nat) => [LsF p9 0 os, RwF p9 c9 os, AllO wB.heap.size os, AgF wB, BoxF b5 25 [.slice pw us.length cw, .slice pk2 kw.length ck2], BoxF b2 25 [.slice pu us.length cu, .slice pk ks.length ck], LsF p7 0 ows, LsF p6 0 ins, LsF pk2 0 kw, SlF pw (encL us), LsF pk 0 ks, SlF pu (encL us)]) (fun (k : Nat) => k ≤ ins.length) (fun (k : Nat) => ins.length - k) (0) ?_ S.uu ?_ ?_
    · exact Nat.zero_le _
    · first | exact S | exact S.sub _ _
    · clear S; rintro k uu a w hk S
      refine c_seq ?_; refine c_region ?_; refine sq S ?_; clear S; intro a S; refine wl_nil ?_; refine xtn ?_; refine c_seq ?_
      refine c_cond S (fun h17 => ?_) (fun h17 => ?_)
      · refine c_skip ?_; refine xtn ?_; refine c_seq ?_; refine c_block ?_; refine c_seq ?_
        have hkl2 : k < ins.length := by have := of_decide_eq_true h17; omega
        have hK : KLt k ins.length := ⟨hkl2⟩
        have hK2 : KLt k ows.length := ⟨by omega⟩
        have hqq : (nthL ows k).t = (nthL ins k).t := by
          have h1 : (ows.map LTerm.t)[k]? = (ins.map LTerm.t)[k]? := by rw [hows, hins]
          rw [List.getElem?_map, List.getElem?_map, nth_get hkl2, nth_get (show k < ows.length by omega)] at h1
          simpa using h1
        have hgr : rightF (nthL ows k).t = true ↔ Good (nthL ins k).t := by rw [hqq]; exact check_zero.symm.trans good_check
        refine c_region ?_; (iterate 3 (refine sq S ?_; clear S; intro a S))
        refine sa S ?_; clear S; intro b12 a w S
        refine sq S ?_; clear S; intro a S; refine sw S ?_; clear S; intro a w S; refine wl_nil ?_; refine xtn ?_; refine c_seq ?_; refine c_region ?_; (iterate 2 (refine sq S ?_; clear S; intro a S))
        refine sr S (acan_c us ks (nthL ins k) pu pk cu ck _ (by omega) (by omega) (S.mem.fact0 (SlF pu (encL us))) (S.mem.fact0 (LsF pk 0 ks)) (S.mem.t0 _)) ?_; clear S; rintro v a w ⟨hc1, hc2⟩ S
        have hv : v = .tuple ⟨[.bool (br && canB (ks.map LTerm.t) (nthL ins k).t), .int .i64 (if br = true then chkF (ks.map LTerm.t) [(nthL ins k).t] else 320)]⟩ := by
          cases hb : br with
          | true => exact hc1 (hbr.1 hb)
          | false => exact hc2 (fun h => by rw [hbr.2 h] at hb; cases hb)
        subst hv
        clear hc1 hc2
        (iterate 5 (refine sq S ?_; clear S; intro a S)); refine wl_nil ?_; refine xtn ?_; refine c_block ?_; refine c_seq ?_; refine c_region ?_; (iterate 3 (refine sq S ?_; clear S; intro a S)); refine wl_nil ?_; refine xtn ?_
        refine c_cond S (fun h22 => ?_) (fun h22 => ?_)
        · refine c_seq ?_; refine c_region ?_; (iterate 3 (refine sq S ?_; clear S; intro a S)); refine gQ S ?_; clear S; intro a S; refine sq S ?_; clear S; intro a S; refine wl_nil ?_; refine xtn ?_
          refine c_cond S (fun h23 => ?_) (fun h23 => ?_)
          · refine c_seq ?_; refine c_region ?_; refine sq S ?_; clear S; intro a S; refine wl_nil ?_; refine xtn ?_; refine c_ret ?_; (iterate 2 (refine xbr ?_)); (iterate 2 (refine xtr ?_)); refine xbr ?_; refine xtr ?_
            exfalso
            have hbf : br = false := by simpa using h22
            simp [hbf] at h23
          · refine c_skip ?_; (iterate 2 (refine xbn ?_)); refine xtn ?_; refine c_region ?_; (iterate 2 (refine sq S ?_; clear S; intro a S)); refine wl_nil ?_; refine xtn ?_
            rw [w64 ((k : Int) + 1) (by omega) (by omega)] at S
            exact ⟨k + 1, S.uu, hkl2, S.sub _ _, by omega⟩
        · refine c_seq ?_
          have hbt : br = true := by simpa using h22
          have hR : RightA (ks.map LTerm.t) us := hbr.1 hbt
          refine c_region ?_; (iterate 4 (refine sq S ?_; clear S; intro a S)); refine sc S ?_; clear S; intro a w S; (iterate 2 (refine sq S ?_; clear S; intro a S)); refine wl_nil ?_; refine xtn ?_
          refine c_cond S (fun h25 => ?_) (fun h25 => ?_)
          · refine c_seq ?_; refine c_region ?_; (iterate 3 (refine sq S ?_; clear S; intro a S)); refine gQ S ?_; clear S; intro a S; refine sq S ?_; clear S; intro a S; refine wl_nil ?_; refine xtn ?_
            refine c_cond S (fun h26 => ?_) (fun h26 => ?_)
            · refine c_seq ?_; refine c_region ?_; refine sq S ?_; clear S; intro a S; refine wl_nil ?_; refine xtn ?_; refine c_ret ?_; (iterate 2 (refine xbr ?_)); (iterate 2 (refine xtr ?_)); refine xbr ?_; refine xtr ?_
              exfalso
              have hnb : badF (nthL ins k).t = true := by
                cases hb : badF (nthL ins k).t with
                | true => rfl
                | false => rw [hgr.2 (badF_iff.1 hb)] at h25; cases h25
              rw [chk_good hR, can_good hR, hnb] at h26
              simp [hbt] at h26
            · refine c_skip ?_; (iterate 2 (refine xbn ?_)); refine xtn ?_; refine c_region ?_; (iterate 2 (refine sq S ?_; clear S; intro a S)); refine wl_nil ?_; refine xtn ?_
              rw [w64 ((k : Int) + 1) (by omega) (by omega)] at S
              exact ⟨k + 1, S.uu, hkl2, S.sub _ _, by omega⟩
          · refine c_seq ?_
            have hgt : Good (nthL ins k).t := hgr.1 (by simpa using h25)
            have hnb : badF (nthL ins k).t = false := badF_iff.2 hgt
            have hCk : CanOk [LsF p9 0 os, RwF p9 c9 os, AllO wB.heap.size os, AgF wB, BoxF b5 25 [.slice pw us.length cw, .slice pk2 kw.length ck2], BoxF b2 25 [.slice pu us.length cu, .slice pk ks.length ck], LsF p7 0 ows, LsF p6 0 ins, LsF pk2 0 kw, SlF pw (encL us), LsF pk 0 ks, SlF pu (encL us)] pk2 kw.length (nthL ows k) kw := ⟨by simp, rfl, by have := hR.1.1; rw [List.length_map] at this; omega, fun x hx => hR.1.2.1 _ (by rw [← hkk]; exact List.mem_map.2 ⟨x, hx, rfl⟩), by rw [hqq]; exact hgt⟩
            refine c_drawD [(0, true), (1, true), (2, true), (3, true), (4, true), (5, true), (6, true), (7, true), (8, true), (9, true), (10, false), (11, true), (12, true)] [] S ?_; clear S; intro w S
            (iterate 3 (refine dq S ?_; clear S; intro a S)); (iterate 7 (refine dqG S ?_; clear S; intro a S)); refine dl ?_; refine gC S ?_; clear S; intro a w S; refine de S ?_; refine dqG S ?_; clear S; intro a S; refine dq S ?_; clear S; intro a S; refine dn ?_; refine xtn ?_
            refine c_cond S (fun h20 => ?_) (fun h20 => ?_)
            · refine c_seq ?_; refine c_region ?_; refine sq S ?_; clear S; intro a S; refine wl_nil ?_; refine xtn ?_; refine c_ret ?_; (iterate 2 (refine xbr ?_)); (iterate 2 (refine xtr ?_)); refine xbr ?_; refine xtr ?_
              exfalso
              rw [chk_good hR, can_good hR, hnb, hkk, hqq] at h20
              simp [hbt] at h20
            · refine c_skip ?_; (iterate 2 (refine xbn ?_)); refine xtn ?_; refine c_region ?_; (iterate 2 (refine sq S ?_; clear S; intro a S)); refine wl_nil ?_; refine xtn ?_
              rw [w64 ((k : Int) + 1) (by omega) (by omega)] at S
              exact ⟨k + 1, S.uu, hkl2, S.sub _ _, by omega⟩
      · refine c_exit ?_; (iterate 2 (refine xte ?_)); refine xbe ?_; refine xtn ?_; refine c_seq ?_; refine c_region ?_; refine sq S ?_; clear S; intro a S
        have hAg : Agree (fun _ => False) wB w := (S.mem.fact0 (AgF wB)).now
        have hrow' := (S.mem.fact0 (RwF p9 c9 os)).now
        have hall' := (S.mem.fact0 (AllO wB.heap.size os)).now
        have S2 := respoil S (B := fun k => wB.heap.size ≤ k ∧ k < w.heap.size) hAg (fun k h => h) hw0B hF0
        refine sit (stp (fun k => wB.heap.size ≤ k ∧ k < w.heap.size) w) S2 (spoil22_c os p9 c9 wB.heap.size w hrow' hpn hall') rfl ?_
        obtain ⟨B, hBd⟩ : ∃ B : Nat → Prop, B = fun k => wB.heap.size ≤ k ∧ k < w.heap.size := ⟨_, rfl⟩
        have hBs : ∀ k, B k → k < w.heap.size := fun k h => by rw [hBd] at h; exact h.2
        rw [← hBd]
        clear S S2 hall' hrow' hAg
        rintro _ a w2 hsz hS
        have S := hS (stp B w2) (Step.refl (fun k hk => Nat.lt_of_lt_of_le (hBs k hk) hsz)) (fun k h => .inl h)
        clear hS
        refine wl_nil ?_; refine xtn ?_; refine c_seq ?_; refine c_region ?_; (iterate 2 (refine sq S ?_; clear S; intro a S))
        refine sr S (r22same_c us us ks kw pu pk pw pk2 cu ck cw ck2 _ (by omega) (by omega) (S.mem.fact0 (SlF pu (encL us))) (S.mem.fact0 (LsF pk 0 ks)) (S.mem.fact0 (SlF pw (encL us))) (S.mem.fact0 (LsF pk2 0 kw))) ?_; clear S; rintro _ a w rfl S
        rw [hkk, sameA_refl] at S
        refine sq S ?_; clear S; intro a S; refine gT S ?_; refine sq S ?_; clear S; intro a S; refine gT S ?_; refine sq S ?_; clear S; intro a S; refine gT S ?_
        refine sr S (rsameall_c p6 p7 c6 c7 ins ows _ (by omega) (S.mem.fact0 (LsF p6 0 ins)) (S.mem.fact0 (LsF p7 0 ows))) ?_; clear S; rintro _ a w rfl S
        rw [hins, hows, sameLF_refl] at S
        (iterate 2 (refine sq S ?_; clear S; intro a S)); refine wl_nil ?_; refine xtn ?_; refine c_ret ?_
        refine end1 S (fun _ => rfl)
end Go.Proofs.Ytibkkbknnfehlaa