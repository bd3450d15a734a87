/- 6: a part of this claim's texts, joined: VaultF W9 WalA WalB WalC WalD WalE WalF WalG WalH WalI WalJ WalK PlainWal WalLaw WalLawB WalLawC WalLawD WalM WalN WalO WalP W10 WalQ WalR PlainDisk PlainWalB. -/
import Derived.Test.YtdakncgafdnjfaaGreatPb5
import Derived.ChangeKeysEq
import Derived.Laws.StructEq
/- Package vault: all; slices.Collect at rows. -/
namespace Go.Proofs.YtdakncgafdnjfaaGreat
open Go Go.Wk
set_option synthInstance.maxSize 100000
set_option synthInstance.maxHeartbeats 400000
set_option maxRecDepth 100000

def alV (b : Nat) : Value := .func (.func 190) #[] ⟨[.pointer (some ⟨b, 0, none⟩)]⟩
theorem all_vf (p : Option Addr) (n c : Nat) (w0 : World) : Ret Tryz.prog 96 [.slice p n c] w0 (fun _ => False) fun v w' => ∃ b, v = alV b ∧ w0.heap.size ≤ b ∧ BoxF b 142 [.slice p n c] w' := by
  refine enter Tryz.func96 rfl rfl (Wd.start w0) (fun a S => ?_)
  simp only [Tryz.ntmps96, List.length_cons, List.length_nil, Nat.reduceAdd, Nat.reduceSub, List.replicate_succ, List.replicate_zero, List.cons_append, List.nil_append] at S
  refine c_seq ?_
  refine c_region ?_
  refine sa S ?_; clear S; intro b1 a w S
  refine sq S ?_; clear S; intro a S
  refine wl_nil ?_
  refine xtn ?_
  refine c_seq ?_
  refine c_region ?_
  iterate 2 (refine sq S ?_; clear S; intro a S)
  refine wl_nil ?_
  refine xtn ?_
  refine c_ret ?_
  have h1 := S.boxF b1
  have n1 := S.boxNew b1
  refine end1 S (fun _ => ?_)
  exact ⟨b1, rfl, n1.elim (fun h => h.elim) id, h1⟩
theorem all_vit (b : Nat) (xs : List LRow) (p : Option Addr) (c : Nat) (hl : xs.length ≤ 1000000) (w0 : World) (M : Nat → Prop) (hM : ∀ k, M k → k < w0.heap.size) (f1 : Stable M w0 (BoxF b 142 [.slice p xs.length c])) (f2 : Stable M w0 (GlF p xs)) :
    IterRet Tryz.prog 190 [.pointer (some ⟨b, 0, none⟩)] w0 M (fun (y : LRow) vs _ _ => vs = [vRow y]) xs := by
  intro L J Jx hy hJ
  have hF : ∀ Φ ∈ [BoxF b 142 [.slice p xs.length c], GlF p xs], Stable M w0 Φ := by simp; exact ⟨f1, f2⟩
  refine (callsIn_wide (n := 0)).2 ?_
  refine enter Tryz.func190 rfl rfl (Wd.beginM (M := M) (fs := [BoxF b 142 [.slice p xs.length c], GlF p xs]) hM hF) (fun a S => ?_)
  simp only [Tryz.ntmps190, List.length_cons, List.length_nil, Nat.reduceAdd, Nat.reduceSub, List.replicate_succ, List.replicate_zero, List.cons_append, List.nil_append] at S
  refine c_seq ?_
  refine c_region ?_
  iterate 3 (refine sq S ?_; clear S; intro a S)
  refine wl_nil ?_
  refine xtn ?_
  refine c_block ?_
  refine c_loop (ι := Nat) (fun k a w => k ≤ xs.length ∧ ∃ N w1, J k w1 ∧ ∃ uu : Nat → Value,  St w1 (fun _ => False) [] a w ((.func (.yield L) #[] #[]) :: (.pointer (some ⟨b, 0, none⟩)) :: uu 2 :: uu 3 :: uu 4 :: (.slice p xs.length c) :: (.int .i64 xs.length) :: (.int .i64 (k : Nat)) :: uu 8 :: uu 9 :: uu 10 :: uu 11 :: uu 12 :: uu 13 :: uu 14 :: uu 15 :: []) [ext N] [BoxF b 142 [.slice p xs.length c], GlF p xs]) (fun k => xs.length - k) 0 ?_ ?_
  · exact ⟨Nat.zero_le _, M, w0, hJ, S.uu, S⟩
  · clear S
    rintro k a w ⟨hk, N, w1, hJk, uu, S⟩
    refine c_seq ?_
    refine c_region ?_
    refine sq S ?_; clear S; intro a S
    refine wl_nil ?_
    refine xtn ?_
    refine c_seq ?_
    refine c_cond S (fun h1 => ?_) (fun h1 => ?_)
    · refine c_skip ?_
      refine xtn ?_
      refine c_seq ?_
      refine c_block ?_
      refine c_seq ?_
      have hkl : k < xs.length := by simp at h1; omega
      have hK : KLt k xs.length := ⟨hkl⟩
      refine c_region ?_
      iterate 2 (refine sq S ?_; clear S; intro a S)
      refine sa S ?_; clear S; intro b4 a w S
      refine sw S ?_; clear S; intro a w S
      refine wl_nil ?_
      refine xtn ?_
      refine c_seq ?_
      refine c_region ?_
      iterate 2 (refine sq S ?_; clear S; intro a S)
      refine sy S (M := M) (wI := w0) (fs0 := [BoxF b 142 [.slice p xs.length c], GlF p xs]) hF (hy k _ _ w1 w (nthG_get hkl) hJk S.wd.agree rfl) ?_; clear S; intro ok N' a w2 hT hX S
      refine sq S ?_; clear S; intro a S
      refine wl_nil ?_
      refine xtn ?_
      refine c_cond S (fun h3 => ?_) (fun h3 => ?_)
      · refine c_ret ?_
        refine xbr ?_
        iterate 2 (refine xtr ?_)
        refine xbr ?_
        exact endI S ⟨w2, S.wd.agree, .inr (hX (by simpa using h3))⟩
      · refine c_skip ?_
        refine xbn ?_
        refine xtn ?_
        refine c_region ?_
        iterate 2 (refine sq S ?_; clear S; intro a S)
        refine wl_nil ?_
        refine xtn ?_
        rw [w64 ((k : Int) + 1) (by omega) (by omega)] at S
        exact ⟨k + 1, ⟨hkl, N', w2, hT (by simpa using h3), S.uu, S⟩, by omega⟩
    · refine c_exit ?_
      iterate 2 (refine xte ?_)
      refine xbe ?_
      refine endI S ⟨w1, S.wd.agree, .inl ?_⟩
      have h9 : k = xs.length := by simp at h1; omega
      rw [← h9]; exact hJk
theorem rappendSeq_c (gf : Nat) [EntF Tryz.prog gf] (lb : List Value) (ys : List LRow) (xs : List Value) (fs0 : List (World → Prop)) (p : Option Addr) (n c : Nat) (w0 : World) (hl : n + ys.length ≤ 10000000) (hown : w0.ownsRow 0 45 6 (.slice p n c) n xs)
    (hfs : ∀ Φ ∈ fs0, Stable (fun k => ∃ ad, p = some ad ∧ k = ad.block) w0 Φ)
    (hit : ∀ (M : Nat → Prop) (w1 : World), (∀ k, M k → k < w1.heap.size) → (∀ Φ ∈ fs0, Stable M w1 Φ) → IterRet Tryz.prog gf lb w1 M (fun (x : LRow) vs _ _ => vs = [vRow x]) ys) :
    Ret Tryz.prog 189 [.slice p n c, .func (.func gf) #[] ⟨lb⟩] w0 (fun k => ∃ ad, p = some ad ∧ k = ad.block) fun v w' =>
      ∃ p' c', v = .slice p' (n + ys.length) c' ∧ w'.ownsRow 0 45 6 (.slice p' (n + ys.length) c') (n + ys.length) (xs ++ encL ys) ∧ ∀ ad, p' = some ad → (∃ ad', p = some ad' ∧ ad.block = ad'.block) ∨ w0.heap.size ≤ ad.block := by
  refine enterM Tryz.func189 rfl rfl (Wd.rowLent hown hfs) (fun a S => ?_)
  simp only [Tryz.ntmps189, List.length_cons, List.length_nil, Nat.reduceAdd, Nat.reduceSub, List.replicate_succ, List.replicate_zero, List.cons_append, List.nil_append] at S
  refine c_seq ?_
  refine c_region ?_
  refine sa S ?_; clear S; intro b2 a w S
  refine sq S ?_; clear S; intro a S
  refine wl_nil ?_
  refine xtn ?_
  iterate 2 (refine c_seq ?_)
  refine c_region ?_
  refine sq S ?_; clear S; intro a S
  refine wl_nil ?_
  refine xtn ?_
  refine c_block ?_
  refine c_range (κ := Option Addr × Nat) (κx := Empty) (Ds := []) ys
    (fun i k => [Wk.box b2 22 [.slice k.1 (n + i) k.2], marks [], Wk.row 45 6 k.1 (n + i) k.2 (xs ++ encL (ys.take i))]) (fun _ _ => fs0) (fun _ _ => True) (fun k => k.elim) (fun k => k.elim) (fun _ k => k.elim) (p, c) S (fun M w1 hM hF _ => hit M w1 hM hF) ⟨trivial, by simp [encL], rfl⟩ ?_ ?_ ?_ ?_
  · clear S
    rintro L D bL M w1 i x vs ⟨p, c⟩ W0 w hx - hW0 hgr rfl
    refine ⟨_, inferInstance, fun a S => ?_⟩
    have hil : i < ys.length := (List.getElem?_eq_some_iff.1 hx).1
    have hti : ys.take (i + 1) = ys.take i ++ [x] := by rw [List.take_add_one, hx]; rfl
    have hKL : KLt (n + i) (n + i + 1) := ⟨by omega⟩
    have hrl : (xs ++ encL (ys.take i)).length = (n + i) * 6 := S.row p (n + i) |>.1
    refine c_region ?_
    refine sa S ?_; clear S; intro b5 a w S
    refine sw S ?_; clear S; intro a w S
    refine wl_nil ?_
    refine xtn ?_
    refine rbegin (D := D) (b := bL) S ?_; clear S; intro a w S
    refine c_block ?_
    refine c_region ?_
    iterate 2 (refine sq S ?_; clear S; intro a S)
    refine sn S ?_; clear S; intro b10 a w S
    refine sap S (by simp [maxLen]; omega) (by omega) ?_; clear S; rintro p2 c2 a w - S
    rw [List.append_assoc, show encL (ys.take i) ++ [str x.name, .int .i64 x.term.kind, .int .i64 x.term.user, .int .i64 x.term.num, str x.term.text, .slice x.term.p x.term.kids.length x.term.cap] = encL (ys.take (i + 1)) from by rw [hti, encL_append]; rfl] at S
    refine sw S ?_; clear S; intro a w S
    refine wl_nil ?_
    refine xbn ?_
    replace S := S.sub [lpI L D (lpR bL .busy none), Wk.box b2 22 [.slice p2 (n + i + 1) c2], marks [], Wk.row 45 6 p2 (n + i + 1) c2 (xs ++ encL (ys.take (i + 1)))] fs0
    exact rnext (D := D) (b := bL) S fun W hW => ⟨(p2, c2), trivial, hW⟩
  · clear S
    rintro D ⟨p2, c2⟩ a w - S
    refine xbn ?_
    refine xtn ?_
    refine c_seq ?_
    refine c_region ?_
    iterate 2 (refine sq S ?_; clear S; intro a S)
    refine wl_nil ?_
    refine xtn ?_
    refine c_ret ?_
    replace S := S.join (Ds := [])
    have hrow := S.row p2 (n + ys.length)
    have hnew := S.rowNew p2 (n + ys.length)
    refine endM1 S (fun w hw => ?_)
    have h1 := hw.held (Wk.row 45 6 p2 (n + ys.length) c2 (xs ++ encL (ys.take ys.length))) (by simp)
    rw [List.take_length] at h1
    exact ⟨p2, c2, rfl, h1, hnew⟩
  · intro D k; exact k.elim
  · intro id D k; exact k.elim
theorem collectR_c (b : Nat) (xs : List LRow) (p : Option Addr) (c : Nat) (hl : xs.length ≤ 1000000) (w0 : World) (f1 : Stable (fun _ => False) w0 (BoxF b 142 [.slice p xs.length c])) (f2 : Stable (fun _ => False) w0 (GlF p xs)) :
    Ret Tryz.prog 95 [alV b] w0 (fun _ => False) fun v w' => ∃ p' c', v = .slice p' xs.length c' ∧ w'.ownsRow 0 45 6 (.slice p' xs.length c') xs.length (encL xs) ∧ ∀ ad, p' = some ad → w0.heap.size ≤ ad.block := by
  refine enter Tryz.func95 rfl rfl (Wd.begin (fs := [BoxF b 142 [.slice p xs.length c], GlF p xs]) (by simp; exact ⟨f1, f2⟩)) (fun a S => ?_)
  simp only [Tryz.ntmps95, List.length_cons, List.length_nil, Nat.reduceAdd, Nat.reduceSub, List.replicate_succ, List.replicate_zero, List.cons_append, List.nil_append] at S
  refine c_seq ?_
  refine c_region ?_
  refine sq S ?_; clear S; intro a S
  refine wl_nil ?_
  refine xtn ?_
  refine c_seq ?_
  refine c_region ?_
  refine sq S ?_; clear S; intro a S
  replace S := S.addNil 45 6
  refine srg none 0 S (rappendSeq_c 190 [.pointer (some ⟨b, 0, none⟩)] xs [] [BoxF b 142 [.slice p xs.length c], GlF p xs] none 0 0 _ (by omega) (S.row none 0) (fun Φ hΦ => by
    simp only [List.mem_cons, List.not_mem_nil, or_false] at hΦ
    rcases hΦ with rfl | rfl
    · exact (S.mem.fact (BoxF b 142 [.slice p xs.length c])).less fun _ _ ⟨_, h, _⟩ => by cases h
    · exact (S.mem.fact (GlF p xs)).less fun _ _ ⟨_, h, _⟩ => by cases h) (fun M w1 hM hF => all_vit b xs p c hl w1 M hM (hF _ (by simp)) (hF _ (by simp)))) ?_; clear S; rintro _ a w ⟨p2, c2, rfl, hown2, hnew2⟩ hS
  have S := hS _ hown2 hnew2
  clear hS
  rw [List.nil_append, Nat.zero_add] at S
  refine sq S ?_; clear S; intro a S
  refine wl_nil ?_
  refine xtn ?_
  refine c_ret ?_
  have hrow := S.row p2 xs.length
  have hnew := S.rowNew p2 xs.length
  refine end1 S (fun _ => ?_)
  exact ⟨p2, c2, rfl, hrow, fun ad h => (hnew ad h).elim (fun h => h.elim) id⟩
end Go.Proofs.YtdakncgafdnjfaaGreat

namespace Go.Wk
open Go
section
variable {P : Program} {r : Option Nat} {ops : Array Oper} {Q : Exit → Act → World → Prop} {w0 : World} {M0 : Nat → Prop} {ds : List Deferred} {a : Act} {w : World} {l : List Value} {bs : List Item} {fs : List (World → Prop)}
  {d : Option Nat} {ty t tx e : TypeId} {pos : String} {af : Array Edge} {rest : List Oper} {x y : Operand} {by_ c sz m : Nat} {z : Value}
/-- an append to a slice that has no room left, whosever it is: a row in new memory. -/
theorem sapG (ad : Addr) (n : Nat) (olds : List Value) {xv : Value} {news : List Value} {l' : Nat → Nat → List Value} (S : St w0 M0 ds a w l bs fs)
    [Ev ⟨[], l⟩ x (.slice (some ad) n c)] [Ev ⟨[], l⟩ y xv] [ht : Und P t (.slice e)] [hti : TI P e z sz by_] {zc : List Value} [hzc : Cells z zc] [hzl : LenIs zc sz] [hs : SrcV P tx xv bs fs sz m news]
    [hp : ∀ g c', PutO l d (.slice (some ⟨g, 0, none⟩) (n + m) c') (l' g c')] (hl : olds.length = n * sz) (hold : ∀ j u, olds[j]? = some u → w.cell? (ad.add j) = some u) (hg : c < n + m)
    (h63 : n + m ≤ maxLen) (hb : (n + m) * by_ ≤ 140737488355328)
    (K : ∀ g c' a w, St w0 M0 ds a w (l' g c') (row e sz (some ⟨g, 0, none⟩) (n + m) c' (olds ++ news) :: bs) fs → WL P r ops Q rest a w) :
    WL P r ops Q (⟨d, .call { callee := .builtin .append, args := #[x, y], argTypes := #[t, tx] }, ty, pos, af, none⟩ :: rest) a w := by
  refine wl_plain rfl ?_
  rw [semAt_nd rfl]
  obtain ⟨ii, hi, hz', hsize, hby⟩ := hti.ex
  subst hsize hby
  have hsrc := hs.src w S.wd.mem
  have hr := run_append_grow_src (P := P) w t tx ty e ii z ht.eq hi hz' (some ad) n c olds (by
    have := run_firstCells_some (P := P) w.drew ii.size n ad n c olds hl (fun j u hu => by simpa using hold j u hu)
    simpa using this) xv m news hsrc hg (by simp only [maxLen] at h63; omega) (growslice_fits hg hb)
  have hlen : (olds ++ news).length = (n + m) * ii.size := by rw [List.length_append, hl, hsrc.newsLen, Nat.add_mul]
  have hzs : z.cells.size = ii.size := by rw [← Array.length_toList, hzc.eq, hzl.eq]
  have hown : (w.drew.alloc (.cells ((olds ++ news).toArray ++ Builtin.zeroCells z.cells (grownCap w (n + m) c e - (n + m))) e)).ownsRow 0 e ii.size (.slice (some ⟨w.heap.size, 0, none⟩) (n + m) (grownCap w (n + m) c e)) (n + m) (olds ++ news) := by
    refine ⟨hlen, .inr ⟨w.heap.size, _, _, rfl, Nat.zero_le _, heap_alloc_new w.drew _, grownCap_ge _ _ _ _, grownCap_le_maxLen w (n + m) c e h63, ?_, ?_⟩⟩
    · have := grownCap_ge w (n + m) c e
      rw [Array.size_append, size_zeroCells, hzs, List.size_toArray, hlen, ← Nat.add_mul]
      congr 1; omega
    · rw [← hlen, Array.toList_append]
      exact List.take_left
  have hag : Agree (fun _ => False) w (w.drew.alloc (.cells ((olds ++ news).toArray ++ Builtin.zeroCells z.cells (grownCap w (n + m) c e - (n + m))) e)) := (Agree.drawn _ w _).trans (Agree.alloc _ w.drew _)
  generalize w.drew.alloc (.cells ((olds ++ news).toArray ++ Builtin.zeroCells z.cells (grownCap w (n + m) c e - (n + m))) e) = w' at hr hown hag
  generalize grownCap w (n + m) c e = c' at hr hown
  have e1 : (xop a.eval (.call { callee := .builtin .append, args := #[x, y], argTypes := #[t, tx] }) ty).run P w = .ok (.value (.slice (some ⟨w.heap.size, 0, none⟩) (n + m) c')) w' := by
    simp [xop, execOp, resolve, invoke, builtin, S.fr.ev (x := x) (v := .slice (some ad) n c), S.fr.ev (x := y) (v := xv), Sem.run_bind, hr]
  simp only [e1, Oper.uponIn]
  have := hp w.heap.size c'
  have S' := S.put (d := d) (v := .slice (some ⟨w.heap.size, 0, none⟩) (n + m) c')
  exact K w.heap.size c' _ w' ⟨S'.slots, S'.defers, S'.wd.addRow hag hown (fun ad h => by cases h; exact Nat.le_refl _)⟩
/-- bytes are copied into an array of a variable, as many as have room. -/
theorem scpB (b n m : Nat) {T : TypeId} {cs : List Value} (ys : List UInt8) {q : Option Addr} {cd cy : Nat} {bs' : List Item} {l' : List Value} (S : St w0 M0 ds a w l bs fs) [Ev ⟨[], l⟩ x (.slice (some ⟨b, 0, none⟩) n cd)] [Ev ⟨[], l⟩ y (.slice q m cy)] [ht : Und P t (.slice e)] [hti : TI P e z 1 by_] [HasBox bs b T cs]
    [hrep : ReplI bs (box b T cs) (box b T ((encL ys).take n ++ cs.drop m)) bs'] [hp : PutO l d (.int .i64 ((min m n : Nat) : Int)) l'] (hq : SlF q (encL ys) w) (hy : ys.length = m) (hc : cs.length = n) (K : ∀ a w, St w0 M0 ds a w l' bs' fs → WL P r ops Q rest a w) :
    WL P r ops Q (⟨d, .call { callee := .builtin .copy, args := #[x, y], argTypes := #[t, tx] }, ty, pos, af, none⟩ :: rest) a w := by
  refine wl_plain rfl ?_
  rw [semAt_nd rfl]
  have hb := S.box b
  have S' := S.put (d := d) (v := .int .i64 ((min m n : Nat) : Int)) (l' := l')
  have hel : (encL ys).length = m := by rw [encL_len, hy]; exact Nat.mul_one _
  have hnl : ((encL ys).take (min m n)).length = min m n := by rw [List.length_take, hel]; omega
  have hcells : (Builtin.firstCells 1 (min m n) (.slice q m cy)).run P w = .ok ((encL ys).take (min m n)).toArray w := by
    cases hqq : q with
    | none =>
      have h1 := hq.1 hqq
      have h2 : m = 0 := by rw [← hel, h1]; rfl
      subst h2
      rw [h1, Nat.zero_min]
      exact run_firstCells_none w 1 0 0 cy
    | some ad =>
      refine run_firstCells_some w 1 (min m n) ad m cy _ (by rw [hnl, Nat.mul_one]) (fun j u hj => hq.2 ad hqq j u ?_)
      rw [List.getElem?_take] at hj
      split at hj
      · exact hj
      · cases hj
  have hst := run_storeCells_at (P := P) b 0 T ((encL ys).take (min m n)) 0 cs.toArray w hb (by rw [hnl]; simp [hc]; omega) (fun u hu => encL_one ys u (List.mem_of_mem_take hu))
  have e0 : (cs.toArray.toList.take 0 ++ (encL ys).take (min m n) ++ cs.toArray.toList.drop (0 + ((encL ys).take (min m n)).length)) = (encL ys).take n ++ cs.drop m := by
    rw [hnl]
    rcases Nat.le_total m n with h | h
    · rw [Nat.min_eq_left h, List.take_of_length_le (by omega : (encL ys).length ≤ m), List.take_of_length_le (by omega : (encL ys).length ≤ n)]; simp
    · rw [Nat.min_eq_right h]; simp; omega
  simp only [Nat.zero_add] at hst e0
  rw [e0] at hst
  have hrun : (Builtin.copy_ #[t, tx] ty #[.slice (some ⟨b, 0, none⟩) n cd, .slice q m cy]).run P w = .ok (.int .i64 ((min m n : Nat) : Int)) (w.setRow b ((encL ys).take n ++ cs.drop m).toArray) := by
    have h1 : (storeCells ⟨b, 0, none⟩ ((encL ys).take (min m n))).run P w = .ok () (w.setRow b ((encL ys).take n ++ cs.drop m).toArray) := by simpa using hst
    have h2 : Nat.min m n = min m n := rfl
    simp [Builtin.copy_, Sem.run_bind, run_und, run_size, Builtin.lenOf, h2, hcells, h1, goInt]
  have e1 : (xop a.eval (.call { callee := .builtin .copy, args := #[x, y], argTypes := #[t, tx] }) ty).run P w = .ok (.value (.int .i64 ((min m n : Nat) : Int))) (w.setRow b ((encL ys).take n ++ cs.drop m).toArray) := by
    simp [xop, execOp, resolve, invoke, builtin, S.fr.ev (x := x) (v := .slice (some ⟨b, 0, none⟩) n cd), S.fr.ev (x := y) (v := .slice q m cy), Sem.run_bind, hrun]
  simp only [e1, Oper.uponIn]
  have hh : (box b T ((encL ys).take n ++ cs.drop m)).holds (w.setRow b ((encL ys).take n ++ cs.drop m).toArray) := setRow_heap w b cs.toArray _ T _ hb
  exact K _ _ (S.reput (x := box b T cs) (y := box b T ((encL ys).take n ++ cs.drop m)) S'.slots S'.defers rfl (Agree.setRow w b _ rfl) hh (fun k h => .inl h) (ItOk.lt _ hh) ItOk.loc)
end
/-- a part of an array, each of one cell. -/
theorem run_idx {P : Program} {ty t e : TypeId} {l : Cx} {x y : Operand} {n : Nat} {kk : IntKind} {z : Value} {by_ : Nat} {ρ : Operand → Value} (vs : List Value) (k : Nat) (v : Value) [Ev l x (.agg ⟨vs⟩)] [Ev l y (.int kk (k : Int))] [ht : Und P t (.array n e)] [hti : TI P e z 1 by_] [ha : AggT P e false] (hv : vs[k]? = some v) (hn : vs.length = n) (h : Fr ρ l) (w : World) :
    (xop ρ (.index t x y) ty).run P w = .ok (.value v) w := by
  have hlt : k < vs.length := (List.getElem?_eq_some_iff.1 hv).1
  have e2 : (⟨vs⟩ : Array Value)[k]? = some v := by simpa using hv
  have e3 : k < (⟨vs⟩ : Array Value).size := hlt
  simp [xop, execOp, h.ev (x := x) (v := .agg ⟨vs⟩), h.ev (x := y) (v := .int kk (k : Int)), Instr.index, asIntOf, Sem.run_bind, run_und, run_size, part, ha.run, e2]
  rw [if_pos (by rw [← hn]; exact hlt), hv]
  rfl
class EqG (P : Program) (t : TypeId) : Prop where eq : P.eqGuardType P.depth t = false
instance nz48 : NZ 48 := ⟨by decide⟩
end Go.Wk

/- Package wal: a sector's seal, a book's title. -/
namespace Go.Proofs.YtdakncgafdnjfaaGreat
open Go Go.Wk
set_option synthInstance.maxSize 100000
set_option synthInstance.maxHeartbeats 400000
set_option maxRecDepth 100000

def blkOf (l : List UInt8) : Blk := if h : l.length = 64 then ⟨l, h⟩ else zB
theorem blkOf_l {l : List UInt8} (h : l.length = 64) : (blkOf l).l = l := by rw [blkOf, dif_pos h]
/-- 60 bytes behind their seal. -/
def sealF (bs : List UInt8) : Blk := blkOf ((shaF bs).drop 28 ++ bs)
theorem sealF_l {bs : List UInt8} (h : bs.length = 60) : (sealF bs).l = (shaF bs).drop 28 ++ bs := blkOf_l (by rw [List.length_append, List.length_drop, shaF_len, h])
theorem sealed_c (bs : List UInt8) (p : Option Addr) (c : Nat) (w0 : World) (hn : bs.length = 60) (hx : Stable (fun _ => False) w0 (SlF p (encL bs))) :
    Ret Tryz.prog 178 [.slice p 60 c] w0 (fun _ => False) fun r _ => r = vBlk (sealF bs) := by
  have hLN : LenN bs 60 := ⟨hn⟩
  have hsl := shaF_len bs
  have hS32 : LenN (shaF bs) 32 := ⟨hsl⟩
  have hlen : LenIs (encL (shaF bs)) 32 := ⟨by rw [encL_len, hsl]; rfl⟩
  have hle1 : LeC 28 32 := ⟨by omega⟩
  have hle2 : LeC 32 32 := ⟨by omega⟩
  have hsf : SetFront (encL (List.replicate 32 (0 : UInt8))) (encL (shaF bs)) (encL (shaF bs)) := ⟨by rw [encL_len, encL_len, hsl]; exact Nat.le_refl _, by rw [List.drop_of_length_le (by rw [encL_len, encL_len, hsl]; exact Nat.le_refl _), List.append_nil]⟩
  refine enter Tryz.func178 rfl rfl (Wd.begin (fs := [SlF p (encL bs)]) (by simpa using hx)) (fun a S => ?_)
  simp only [Tryz.ntmps178, List.length_cons, List.length_nil, Nat.reduceAdd, Nat.reduceSub, List.replicate_succ, List.replicate_zero, List.cons_append, List.nil_append] at S
  refine c_seq ?_
  refine c_region ?_
  refine sa S ?_; clear S; intro b2 a w S
  refine wl_nil ?_
  refine xtn ?_
  refine c_seq ?_
  refine c_region ?_
  refine sq S ?_; clear S; intro a S
  refine sr S (sum_c bs p 60 c _ hn (by omega) ((S.fact (Φ := SlF p (encL bs)) (by simp)).less fun _ _ h => h.elim)) ?_; clear S; rintro _ a w rfl S
  refine sa S ?_; clear S; intro b3 a w S
  refine sw S ?_; clear S; intro a w S
  refine wl_nil ?_
  refine xtn ?_
  refine c_seq ?_
  refine c_region ?_
  iterate 2 (refine sq S ?_; clear S; intro a S)
  have hb := S.box b3
  refine sapG ⟨b3, 28, none⟩ 4 ((encL (shaF bs)).drop 28) S (by rw [List.length_drop, encL_len, hsl]; rfl) (fun j u hj => ?_) (by omega) (by simp only [maxLen]; omega) (by omega) ?_
  · rw [Addr.add_lit, cell_of_row _ b3 _ _ _ _ hb]
    rw [List.getElem?_drop] at hj
    simpa using hj
  clear S; intro g c' a w S
  rw [show (encL (shaF bs)).drop 28 = encL ((shaF bs).drop 28) from (encL_dropG (shaF bs) 28).symm, ← encL_append, ← sealF_l hn] at S
  have hrow := S.row (some ⟨g, 0, none⟩) (4 + 60)
  replace S := S.rowToGl (some ⟨g, 0, none⟩) (sealF bs).l (e := 5) (sz := 1) (n := 4 + 60) (c := c') (fun _ _ _ _ => trivial)
  replace S := S.add (Φ := BlkF ⟨g, 0, none⟩ (sealF bs)) ((S.mem.fact (GlF (some ⟨g, 0, none⟩) (sealF bs).l)).imp fun _ h j v hj => h.1.2 _ rfl j v hj)
  have hle3 : LeC 64 (4 + 60) := ⟨by omega⟩
  iterate 2 (refine sq S ?_; clear S; intro a S)
  refine sw S ?_; clear S; intro a w S
  refine wl_nil ?_
  refine xtn ?_
  refine c_ret ?_
  refine end1 S (fun _ => ?_)
  rfl
theorem wu32 (n : Int) (h1 : 0 ≤ n) (h2 : n ≤ 4294967295) : IntKind.u32.wrap n = n := by
  unfold IntKind.wrap; simp only [IntKind.bits, IntKind.signed]; simp; omega
theorem slNil (M : Nat → Prop) (w : World) : Stable M w (SlF none (encL ([] : List UInt8))) := fun _ _ => ⟨fun _ => rfl, fun _ h => by cases h⟩
def safeS : List UInt8 := [83, 65, 70, 69, 72, 79, 85, 83, 69]
def titleB (turn n : Int) : List UInt8 := be 4 n ++ be 4 turn ++ safeS ++ List.replicate 43 0
theorem titleB_len (turn n : Int) : (titleB turn n).length = 60 := by simp [titleB, be_len, safeS]
/-- a book's title. -/
def titleF (turn n : Int) : Blk := sealF (titleB turn n)
theorem title_c (turn n : Int) (ht : 0 ≤ turn ∧ turn ≤ 4294967295) (hn : 0 ≤ n ∧ n ≤ 4294967295) (w0 : World) : Ret Tryz.prog 176 [.int .u32 turn, .int .i64 n] w0 (fun _ => False) fun r _ => r = vBlk (titleF turn n) := by
  refine enter Tryz.func176 rfl rfl (Wd.start w0) (fun a S => ?_)
  simp only [Tryz.ntmps176, List.length_cons, List.length_nil, Nat.reduceAdd, Nat.reduceSub, List.replicate_succ, List.replicate_zero, List.cons_append, List.nil_append] at S
  refine c_seq ?_
  refine c_region ?_
  refine sa S ?_; clear S; intro b4 a w S
  refine wl_nil ?_
  refine xtn ?_
  refine c_seq ?_
  refine c_region ?_
  iterate 2 (refine sq S ?_; clear S; intro a S)
  rw [wu32 n (by omega) (by omega)] at S
  refine srn S (put32_c none 0 0 [] n _ rfl (by omega) hn.1 hn.2 (slNil _ _)) ?_; clear S; rintro _ a w ⟨g, rfl, hg, hown⟩ hS -
  have S := hS hown (fun ad h => by cases h; exact hg)
  clear hS
  rw [List.nil_append] at S
  refine sq S ?_; clear S; intro a S
  refine srn S (put32_c (some ⟨g, 0, none⟩) (0 + 4) (0 + 4) (be 4 n) turn _ (be_len _ _) (by omega) ht.1 ht.2 ((own_sl (S.row (some ⟨g, 0, none⟩) (0 + 4))).stable (fun _ _ h => h))) ?_; clear S; rintro _ a w ⟨g2, rfl, hg2, hown2⟩ hS -
  have S := hS hown2 (fun ad h => by cases h; exact hg2)
  clear hS
  refine sq S ?_; clear S; intro a S
  refine wl_nil ?_
  refine xtn ?_
  refine c_seq ?_
  refine c_region ?_
  refine sq S ?_; clear S; intro a S
  refine sap S (by simp only [maxLen]; simp) (by simp) ?_; clear S; rintro p3 c3 a w - S
  refine sapz1 p3 (0 + 4 + 4 + 9) (m := 43) S (by omega) (by simp only [maxLen]; omega) (by omega) ?_; clear S; intro p4 c4 a w S
  rw [← encL_append] at S
  refine sr S (sealed_c (titleB turn n) p4 c4 _ (titleB_len turn n) ((own_sl (S.row p4 60)).stable (fun _ _ h => h))) ?_; clear S; rintro _ a w rfl S
  refine sw S ?_; clear S; intro a w S
  refine wl_nil ?_
  refine xtn ?_
  refine c_ret ?_
  refine end1 S (fun _ => ?_)
  rfl
end Go.Proofs.YtdakncgafdnjfaaGreat

/- Package wal: the leaves of an entry, as often as one likes one block. -/
namespace Go.Proofs.YtdakncgafdnjfaaGreat
open Go Go.Wk
set_option synthInstance.maxSize 100000
set_option synthInstance.maxHeartbeats 400000
set_option maxRecDepth 100000

theorem encZ_drop (n m : Nat) : (encL (List.replicate n (0 : UInt8))).drop m = encL (List.replicate (n - m) (0 : UInt8)) := by
  have h := encL_dropG (List.replicate n (0 : UInt8)) m
  rw [List.drop_replicate, show m * Enc.sz UInt8 = m from Nat.mul_one m] at h
  exact h.symm
def secN (n : Nat) : Nat := if n = 0 then 1 else (n + 47) / 48
def pad48 (l : List UInt8) : List UInt8 := l.take 48 ++ List.replicate (48 - l.length) 0
theorem pad48_len (l : List UInt8) : (pad48 l).length = 48 := by simp [pad48]; omega
/-- a leaf's bytes. -/
def leafB (turn number : Int) (n : Nat) (left : List UInt8) : List UInt8 := be 4 turn ++ be 4 number ++ be 2 (n : Int) ++ be 2 (left.length : Int) ++ pad48 left
theorem leafB_len (turn number : Int) (n : Nat) (left : List UInt8) : (leafB turn number n left).length = 60 := by simp [leafB, be_len, pad48_len]
def leafF (turn number : Int) (bs : List UInt8) (k : Nat) : Blk := sealF (leafB turn number bs.length (bs.drop (48 * k)))
/-- the leaves of an entry. -/
def leavesF (turn number : Int) (bs : List UInt8) : List Blk := (List.range (secN bs.length)).map (leafF turn number bs)
theorem leavesF_len (turn number : Int) (bs : List UInt8) : (leavesF turn number bs).length = secN bs.length := by simp [leavesF]
def leavesV (g0 g1 g2 : Nat) : Value := .func (.func 177) #[] ⟨[.pointer (some ⟨g0, 0, none⟩), .pointer (some ⟨g1, 0, none⟩), .pointer (some ⟨g2, 0, none⟩)]⟩
theorem leaves_f (turn number : Int) (p : Option Addr) (n c : Nat) (w0 : World) : Ret Tryz.prog 82 [.int .u32 turn, .int .u32 number, .slice p n c] w0 (fun _ => False) fun v w' => ∃ g0 g1 g2, v = leavesV g0 g1 g2 ∧ (w0.heap.size ≤ g0 ∧ w0.heap.size ≤ g1 ∧ w0.heap.size ≤ g2) ∧ BoxF g0 25 [.slice p n c] w' ∧ BoxF g1 130 [.int .u32 turn] w' ∧ BoxF g2 130 [.int .u32 number] w' := by
  refine enter Tryz.func82 rfl rfl (Wd.start w0) (fun a S => ?_)
  simp only [Tryz.ntmps82, List.length_cons, List.length_nil, Nat.reduceAdd, Nat.reduceSub, List.replicate_succ, List.replicate_zero, List.cons_append, List.nil_append] at S
  refine c_seq ?_
  refine c_region ?_
  refine sa S ?_; clear S; intro b3 a w S
  refine sa S ?_; clear S; intro b4 a w S
  refine sa S ?_; clear S; intro b5 a w S
  refine sq S ?_; clear S; intro a S
  refine wl_nil ?_
  refine xtn ?_
  refine c_seq ?_
  refine c_region ?_
  iterate 2 (refine sq S ?_; clear S; intro a S)
  refine wl_nil ?_
  refine xtn ?_
  refine c_ret ?_
  have h3 := (S.boxNew b3).elim (fun h => h.elim) id
  have h4 := (S.boxNew b4).elim (fun h => h.elim) id
  have h5 := (S.boxNew b5).elim (fun h => h.elim) id
  have e3 := S.boxF b3
  have e4 := S.boxF b4
  have e5 := S.boxF b5
  exact end1 S (fun _ => ⟨b5, b3, b4, rfl, ⟨h5, h3, h4⟩, e5, e3, e4⟩)
theorem leaves_it (turn number : Int) (ht : 0 ≤ turn ∧ turn ≤ 4294967295) (hnu : 0 ≤ number ∧ number ≤ 4294967295) (g0 g1 g2 : Nat) (bs : List UInt8) (p : Option Addr) (c : Nat) (hl : bs.length ≤ 40000) (hc : bs.length ≤ c) (w0 : World) (M : Nat → Prop) (hM : ∀ k, M k → k < w0.heap.size) (f0 : Stable M w0 (BoxF g0 25 [.slice p bs.length c])) (f1 : Stable M w0 (BoxF g1 130 [.int .u32 turn])) (f2 : Stable M w0 (BoxF g2 130 [.int .u32 number])) (f3 : Stable M w0 (GlF p bs)) :
    IterRet Tryz.prog 177 [.pointer (some ⟨g0, 0, none⟩), .pointer (some ⟨g1, 0, none⟩), .pointer (some ⟨g2, 0, none⟩)] w0 M (fun (x : Blk) vs _ _ => vs = [vBlk x]) (leavesF turn number bs) := by
  intro L J Jx hy hJ
  have hF : ∀ Φ ∈ [GlF p bs, BoxF g0 25 [.slice p bs.length c], BoxF g1 130 [.int .u32 turn], BoxF g2 130 [.int .u32 number]], Stable M w0 Φ := by simp; exact ⟨f3, f0, f1, f2⟩
  have hs0 : 0 < secN bs.length := by unfold secN; split <;> omega
  refine (callsIn_wide (n := 0)).2 ?_
  refine enter Tryz.func177 rfl rfl (Wd.beginM (M := M) (fs := [GlF p bs, BoxF g0 25 [.slice p bs.length c], BoxF g1 130 [.int .u32 turn], BoxF g2 130 [.int .u32 number]]) hM hF) (fun a S => ?_)
  simp only [Tryz.ntmps177, List.length_cons, List.length_nil, Nat.reduceAdd, Nat.reduceSub, List.replicate_succ, List.replicate_zero, List.cons_append, List.nil_append] at S
  refine c_seq ?_
  refine c_region ?_
  iterate 2 (refine sq S ?_; clear S; intro a S)
  refine wl_nil ?_
  refine xtn ?_
  refine c_block ?_
  refine c_loop (ι := Nat × Option Addr × Nat) (fun ⟨k, q, e⟩ a w => (k < secN bs.length ∧ (bs.drop (48 * k)).length ≤ e ∧ Stable M w0 (GlF q (bs.drop (48 * k)))) ∧ ∃ N w1, J k w1 ∧ ∃ uu : Nat → Value,  St w1 (fun _ => False) [] a w ((.func (.yield L) #[] #[]) :: (.pointer (some ⟨g0, 0, none⟩)) :: (.pointer (some ⟨g1, 0, none⟩)) :: (.pointer (some ⟨g2, 0, none⟩)) :: uu 4 :: (.slice q (bs.drop (48 * k)).length e) :: uu 6 :: uu 7 :: uu 8 :: uu 9 :: uu 10 :: uu 11 :: uu 12 :: uu 13 :: uu 14 :: uu 15 :: uu 16 :: uu 17 :: uu 18 :: uu 19 :: uu 20 :: uu 21 :: uu 22 :: uu 23 :: uu 24 :: uu 25 :: uu 26 :: uu 27 :: uu 28 :: uu 29 :: uu 30 :: uu 31 :: uu 32 :: uu 33 :: uu 34 :: uu 35 :: uu 36 :: uu 37 :: uu 38 :: []) [ext N] [GlF q (bs.drop (48 * k)), BoxF g0 25 [.slice p bs.length c], BoxF g1 130 [.int .u32 turn], BoxF g2 130 [.int .u32 number]]) (fun x => secN bs.length - x.1) (0, p, c) ?_ ?_
  · exact ⟨⟨hs0, by simpa using hc, by simpa using f3⟩, M, w0, hJ, S.uu, by rw [show bs.drop (48 * 0) = bs from rfl]; exact S⟩
  · clear S
    rintro ⟨k, q, e⟩ a w ⟨⟨hk, hqe, hq⟩, N, w1, hJk, uu, S⟩
    have hdl : (bs.drop (48 * k)).length = bs.length - 48 * k := List.length_drop
    obtain ⟨left, hleft⟩ : ∃ left, left = bs.drop (48 * k) := ⟨_, rfl⟩
    rw [← hleft] at S hq hqe hdl
    have hll : left.length ≤ 40000 := by omega
    have hF2 : ∀ Φ ∈ [GlF q left, BoxF g0 25 [.slice p bs.length c], BoxF g1 130 [.int .u32 turn], BoxF g2 130 [.int .u32 number]], Stable M w0 Φ := by simp; exact ⟨hq, f0, f1, f2⟩
    have hx : (leavesF turn number bs)[k]? = some (sealF (leafB turn number bs.length left)) := by rw [leavesF, List.getElem?_map, List.getElem?_range hk, hleft]; rfl
    refine c_seq ?_
    refine c_block ?_
    refine c_seq ?_
    refine c_drawD [(0, true), (2, true), (1, false), (3, false), (4, true)] [] S ?_; clear S; intro w S
    iterate 2 (refine dq S ?_; clear S; intro a S)
    refine dl ?_
    refine srn S (put32_c none 0 0 [] turn _ rfl (by omega) ht.1 ht.2 (slNil _ _)) ?_; clear S; rintro _ a w ⟨g, rfl, hg, hown⟩ hS -
    have S := hS hown (fun ad h => by cases h; exact hg)
    clear hS
    rw [List.nil_append] at S
    refine de S ?_
    refine dl ?_
    refine srn S (put32_c (some ⟨g, 0, none⟩) (0 + 4) (0 + 4) (be 4 turn) number _ (be_len _ _) (by omega) hnu.1 hnu.2 ((own_sl (S.row (some ⟨g, 0, none⟩) (0 + 4))).stable (fun _ _ h => h))) ?_; clear S; rintro _ a w ⟨ga, rfl, hga, hown2⟩ hS -
    have S := hS hown2 (fun ad h => by cases h; exact hga)
    clear hS
    refine de S ?_
    refine dq S ?_; clear S; intro a S
    refine dn ?_
    refine xtn ?_
    refine c_seq ?_
    refine c_region ?_
    iterate 4 (refine sq S ?_; clear S; intro a S)
    rw [wu16 (bs.length : Int) (by omega) (by omega)] at S
    refine srn S (put16b_c (some ⟨ga, 0, none⟩) (0 + 4 + 4) (0 + 4 + 4) (be 4 turn ++ be 4 number) (bs.length : Int) _ (by simp [be_len]) (by omega) (by omega) (by omega) ((own_sl (S.row (some ⟨ga, 0, none⟩) (0 + 4 + 4))).stable (fun _ _ h => h))) ?_; clear S; rintro _ a w ⟨gb, rfl, hgb, hown3⟩ hS -
    have S := hS hown3 (fun ad h => by cases h; exact hgb)
    clear hS
    iterate 3 (refine sq S ?_; clear S; intro a S)
    rw [wu16 (left.length : Int) (by omega) (by omega)] at S
    refine srn S (put16b_c (some ⟨gb, 0, none⟩) (0 + 4 + 4 + 2) (0 + 4 + 4 + 2) (be 4 turn ++ be 4 number ++ be 2 (bs.length : Int)) (left.length : Int) _ (by simp [be_len]) (by omega) (by omega) (by omega) ((own_sl (S.row (some ⟨gb, 0, none⟩) (0 + 4 + 4 + 2))).stable (fun _ _ h => h))) ?_; clear S; rintro _ a w ⟨gc, rfl, hgc, hown4⟩ hS -
    have S := hS hown4 (fun ad h => by cases h; exact hgc)
    clear hS
    refine sq S ?_; clear S; intro a S
    refine wl_nil ?_
    refine xtn ?_
    refine c_seq ?_
    refine c_region ?_
    refine sa S ?_; clear S; intro b7 a w S
    refine wl_nil ?_
    refine xtn ?_
    refine c_seq ?_
    refine c_region ?_
    iterate 2 (refine sq S ?_; clear S; intro a S)
    refine scpB b7 48 left.length left S ((S.fact (Φ := GlF q left) (by simp)).now.1) rfl (by rw [encL_len, List.length_replicate]; rfl) ?_; clear S; intro a w S
    rw [show (encL left).take 48 = encL (left.take 48) from encL_take left 48, encZ_drop, ← encL_append, show left.take 48 ++ List.replicate (48 - left.length) 0 = pad48 left from rfl] at S
    have hp48 : LenIs (encL (pad48 left)) 48 := ⟨by rw [encL_len, pad48_len]; rfl⟩
    refine wl_nil ?_
    refine xtn ?_
    refine c_seq ?_
    refine c_region ?_
    iterate 3 (refine sq S ?_; clear S; intro a S)
    rw [show (Value.slice (some (if (48 : Nat) = 0 then (⟨b7, 0, none⟩ : Addr) else ⟨b7, 0 * 1, none⟩)) (48 - 0) (48 - 0)) = .slice (some ⟨b7, 0, none⟩) 48 48 from rfl] at S
    refine sap S (by simp only [maxLen]; simp) (by simp) ?_; clear S; rintro p3 c3 a w - S
    rw [← encL_append] at S
    refine sr S (sealed_c (leafB turn number bs.length left) p3 c3 _ (leafB_len _ _ _ _) ((own_sl (S.row p3 60)).stable (fun _ _ h => h))) ?_; clear S; rintro _ a w rfl S
    refine sy S (M := M) (wI := w0) (fs0 := [GlF q left, BoxF g0 25 [.slice p bs.length c], BoxF g1 130 [.int .u32 turn], BoxF g2 130 [.int .u32 number]]) hF2 (hy _ _ _ w1 _ hx hJk S.wd.agree rfl) ?_; clear S; intro ok N' a w2 hT hX S
    iterate 2 (refine sq S ?_; clear S; intro a S)
    iterate 3 (refine gQ S ?_; clear S; intro a S)
    refine sq S ?_; clear S; intro a S
    refine wl_nil ?_
    refine xtn ?_
    refine c_cond S (fun h6 => ?_) (fun h6 => ?_)
    · refine c_ret ?_
      refine xbr ?_
      iterate 2 (refine xtr ?_)
      refine xbr ?_
      refine endI S ⟨w2, S.wd.agree, ?_⟩
      cases ok with
      | false => exact .inr (hX rfl)
      | true =>
        have h48 : left.length ≤ 48 := by have := h6; simp at this; omega
        have e1 : k + 1 = (leavesF turn number bs).length := by rw [leavesF_len]; unfold secN at hk ⊢; split at hk <;> split <;> omega
        rw [← e1]; exact .inl (hT rfl)
    · refine c_skip ?_
      refine xbn ?_
      refine xtn ?_
      obtain ⟨rfl, h48⟩ : ok = true ∧ 48 < left.length := by
        cases ok with
        | false => exact absurd h6 (by simp)
        | true => exact ⟨rfl, by have := h6; simp at this; omega⟩
      have hLa : LeC 48 left.length := ⟨by omega⟩
      have hLb : LeC left.length e := ⟨hqe⟩
      have hLc : LeC 48 e := ⟨by omega⟩
      refine c_region ?_
      iterate 3 (refine sq S ?_; clear S; intro a S)
      refine wl_nil ?_
      refine xtn ?_
      have edd : left.drop 48 = bs.drop (48 * (k + 1)) := by rw [hleft, List.drop_drop]; congr 1
      obtain ⟨q', hq'⟩ : ∃ q', q' = (if e = 48 then q else q.map (·.add (48 * 1))) := ⟨_, rfl⟩
      rw [← hq'] at S
      have hdr : ∀ w, GlF q left w → GlF q' (bs.drop (48 * (k + 1))) w := fun w h => by rw [← edd, hq']; exact h.drop 48 hqe
      replace S := S.add (Φ := GlF q' (bs.drop (48 * (k + 1)))) ((S.mem.fact (GlF q left)).imp hdr)
      rw [show left.length - 48 = (bs.drop (48 * (k + 1))).length from by rw [← edd, List.length_drop]] at S
      exact ⟨(k + 1, q', e - 48), ⟨⟨by unfold secN at hk ⊢; split at hk <;> split <;> omega, by rw [← edd, List.length_drop]; omega, hq.imp hdr⟩, N', w2, hT rfl, S.uu, S.sub _ _⟩, by show secN bs.length - (k + 1) < secN bs.length - k; omega⟩
end Go.Proofs.YtdakncgafdnjfaaGreat

/- Package wal: as often as one likes one block; blocks are laid. -/
namespace Go.Proofs.YtdakncgafdnjfaaGreat
open Go Go.Wk
set_option synthInstance.maxSize 100000
set_option synthInstance.maxHeartbeats 400000
set_option maxRecDepth 100000

def onlyV (g0 g1 : Nat) : Value := .func (.func 173) #[] ⟨[.pointer (some ⟨g0, 0, none⟩), .pointer (some ⟨g1, 0, none⟩)]⟩
theorem only_f (x : Blk) (n : Nat) (w0 : World) : Ret Tryz.prog 75 [vBlk x, .int .i64 (n : Int)] w0 (fun _ => False) fun v w' => ∃ g0 g1, v = onlyV g0 g1 ∧ (w0.heap.size ≤ g0 ∧ w0.heap.size ≤ g1) ∧ BoxF g0 3 [.int .i64 (n : Int)] w' ∧ BoxF g1 129 (encL x.l) w' := by
  refine enter Tryz.func75 rfl rfl (Wd.start w0) (fun a S => ?_)
  simp only [Tryz.ntmps75, List.length_cons, List.length_nil, Nat.reduceAdd, Nat.reduceSub, List.replicate_succ, List.replicate_zero, List.cons_append, List.nil_append] at S
  refine c_seq ?_
  refine c_region ?_
  refine sa S ?_; clear S; intro b2 a w S
  refine sa S ?_; clear S; intro b3 a w S
  refine sq S ?_; clear S; intro a S
  refine wl_nil ?_
  refine xtn ?_
  refine c_seq ?_
  refine c_region ?_
  iterate 2 (refine sq S ?_; clear S; intro a S)
  refine wl_nil ?_
  refine xtn ?_
  refine c_ret ?_
  have h2 := (S.boxNew b2).elim (fun h => h.elim) id
  have h3 := (S.boxNew b3).elim (fun h => h.elim) id
  have e2 := S.boxF b2
  have e3 := S.boxF b3
  exact end1 S (fun _ => ⟨b3, b2, rfl, ⟨h3, h2⟩, e3, e2⟩)
theorem only_it (g0 g1 : Nat) (x : Blk) (n : Nat) (hn : n ≤ 1000000) (w0 : World) (M : Nat → Prop) (hM : ∀ k, M k → k < w0.heap.size) (f0 : Stable M w0 (BoxF g0 3 [.int .i64 (n : Int)])) (f1 : Stable M w0 (BoxF g1 129 (encL x.l))) :
    IterRet Tryz.prog 173 [.pointer (some ⟨g0, 0, none⟩), .pointer (some ⟨g1, 0, none⟩)] w0 M (fun (x : Blk) vs _ _ => vs = [vBlk x]) (List.replicate n x) := by
  intro L J Jx hy hJ
  have hF : ∀ Φ ∈ [BoxF g0 3 [.int .i64 (n : Int)], BoxF g1 129 (encL x.l)], Stable M w0 Φ := by simp; exact ⟨f0, f1⟩
  refine (callsIn_wide (n := 0)).2 ?_
  refine enter Tryz.func173 rfl rfl (Wd.beginM (M := M) (fs := [BoxF g0 3 [.int .i64 (n : Int)], BoxF g1 129 (encL x.l)]) hM hF) (fun a S => ?_)
  simp only [Tryz.ntmps173, List.length_cons, List.length_nil, Nat.reduceAdd, Nat.reduceSub, List.replicate_succ, List.replicate_zero, List.cons_append, List.nil_append] at S
  refine c_seq ?_
  refine c_region ?_
  iterate 2 (refine sq S ?_; clear S; intro a S)
  refine wl_nil ?_
  refine xtn ?_
  refine c_block ?_
  refine c_loop (ι := Nat) (fun k a w => k ≤ n ∧ ∃ N w1, J k w1 ∧ ∃ uu : Nat → Value,  St w1 (fun _ => False) [] a w ((.func (.yield L) #[] #[]) :: (.pointer (some ⟨g0, 0, none⟩)) :: (.pointer (some ⟨g1, 0, none⟩)) :: uu 3 :: (.int .i64 (n : Nat)) :: (.int .i64 (k : Nat)) :: uu 6 :: uu 7 :: uu 8 :: uu 9 :: uu 10 :: uu 11 :: []) [ext N] [BoxF g0 3 [.int .i64 (n : Int)], BoxF g1 129 (encL x.l)]) (fun k => n - k) 0 ?_ ?_
  · exact ⟨Nat.zero_le _, M, w0, hJ, S.uu, S⟩
  · clear S
    rintro k a w ⟨hk, N, w1, hJk, uu, S⟩
    refine c_seq ?_
    refine c_region ?_
    refine sq S ?_; clear S; intro a S
    refine wl_nil ?_
    refine xtn ?_
    refine c_seq ?_
    refine c_cond S (fun h1 => ?_) (fun h1 => ?_)
    · refine c_skip ?_
      refine xtn ?_
      refine c_seq ?_
      refine c_block ?_
      refine c_seq ?_
      have hkn : k < n := by have := of_decide_eq_true h1; omega
      have hx : (List.replicate n x)[k]? = some x := by rw [List.getElem?_replicate, if_pos hkn]
      refine c_region ?_
      iterate 2 (refine sq S ?_; clear S; intro a S)
      refine sy S (M := M) (wI := w0) (fs0 := [BoxF g0 3 [.int .i64 (n : Int)], BoxF g1 129 (encL x.l)]) hF (hy _ _ _ w1 _ hx hJk S.wd.agree rfl) ?_; clear S; intro ok N' a w2 hT hX S
      refine sq S ?_; clear S; intro a S
      refine wl_nil ?_
      refine xtn ?_
      refine c_cond S (fun h2 => ?_) (fun h2 => ?_)
      · refine c_ret ?_
        refine xbr ?_
        iterate 2 (refine xtr ?_)
        refine xbr ?_
        exact endI S ⟨w2, S.wd.agree, .inr (hX (by simpa using h2))⟩
      · refine c_skip ?_
        refine xbn ?_
        refine xtn ?_
        refine c_region ?_
        iterate 2 (refine sq S ?_; clear S; intro a S)
        refine wl_nil ?_
        refine xtn ?_
        rw [w64 ((k : Int) + 1) (by omega) (by omega)] at S
        exact ⟨k + 1, ⟨by omega, N', w2, hT (by simpa using h2), S.uu, S⟩, by omega⟩
    · refine c_exit ?_
      iterate 2 (refine xte ?_)
      refine xbe ?_
      have hkn : k = n := by have := of_decide_eq_false h1; omega
      refine endI S ⟨w1, S.wd.agree, .inl ?_⟩
      rw [List.length_replicate, ← hkn]; exact hJk
/-- blocks are written, one behind the other. -/
def layW (s : DS) (k : Int) : List Blk → DS × Int
  | [] => (s, 0)
  | x :: xs => if askE s k true = 0 then layW (wrD s k x) (k + 1) xs else (wrD s k x, askE s k true)
def layF (s : DS) (k : Int) (xs : List Blk) : DS × Int := if (layW s k xs).2 = 0 then (syD (layW s k xs).1, askE (layW s k xs).1 0 true) else layW s k xs
theorem wrD_loose (s : DS) (k : Int) (x : Blk) : (wrD s k x).loose.length ≤ s.loose.length + 1 := by
  have h : (askD s k true).loose = s.loose := by
    unfold askD; split
    · rfl
    · split
      · rfl
      · split
        · rfl
        · split <;> (try split) <;> rfl
  unfold wrD askedD
  split
  · simp [opD, writeD, h]
  · rw [h]; omega
theorem lay_c (G : Nat) [EntF Tryz.prog G] (lb : List Value) (xs : List Blk) (b m : Nat) (p : Option Addr) (c : Nat) (s : DS) (at_ : Nat) (fs : List (World → Prop)) (w0 : World) (hl : s.loose.length + xs.length ≤ 1000000) (ha : at_ + xs.length ≤ 1000000) (hd : (dkI b m p c s).holds w0) (hf : ∀ Φ ∈ fs, Stable (dkI b m p c s).foot w0 Φ)
    (hit : ∀ (M : Nat → Prop) (w1 : World), (∀ k, M k → k < w1.heap.size) → (∀ Φ ∈ fs, Stable M w1 Φ) → IterRet Tryz.prog G lb w1 M (fun (x : Blk) vs _ _ => vs = [vBlk x]) xs) :
    Ret Tryz.prog 74 [.pointer (some ⟨b, 0, none⟩), .int .i64 (at_ : Int), .func (.func G) #[] ⟨lb⟩] w0 (dkI b m p c s).foot fun v w' => v = .int .i64 (layF s at_ xs).2 ∧ ∃ p' c', (dkI b m p' c' (layF s at_ xs).1).holds w' ∧ ∀ i, (dkI b m p' c' (layF s at_ xs).1).foot i → (dkI b m p c s).foot i ∨ w0.heap.size ≤ i := by
  have hxl : ∀ i x, xs[i]? = some x → i < xs.length := fun i x h => (List.getElem?_eq_some_iff.1 h).1
  refine enterM Tryz.func74 rfl rfl (Wd.itLent (x := dkI b m p c s) (fs := fs) hd hf) (fun a S => ?_)
  simp only [Tryz.ntmps74, List.length_cons, List.length_nil, Nat.reduceAdd, Nat.reduceSub, List.replicate_succ, List.replicate_zero, List.cons_append, List.nil_append] at S
  refine c_seq ?_
  refine c_region ?_
  refine sa S ?_; clear S; intro b3 a w S
  refine sa S ?_; clear S; intro b4 a w S
  refine sa S ?_; clear S; intro b6 a w S
  refine wl_nil ?_
  refine xtn ?_
  iterate 2 (refine c_seq ?_)
  refine c_region ?_
  refine sq S ?_; clear S; intro a S
  refine wl_nil ?_
  refine xtn ?_
  refine c_block ?_
  replace S := S.boxToF b3
  refine c_range (κ := DS × Option Addr × Nat) (κx := DS × Option Addr × Nat × Int) (Ds := []) xs
    (fun i k => [Wk.box b6 26 [.int .i64 0], Wk.box b4 3 [.int .i64 ((at_ + i : Nat) : Int)], marks [], dkI b m k.2.1 k.2.2 k.1])
    (fun _ _ => BoxF b3 34 [.pointer (some ⟨b, 0, none⟩)] :: fs)
    (fun i k => layW s at_ xs = layW k.1 ((at_ + i : Nat) : Int) (xs.drop i) ∧ k.1.loose.length ≤ s.loose.length + i)
    (fun k => [Wk.box b6 26 [.int .i64 k.2.2.2], marks [], dkI b m k.2.1 k.2.2.1 k.1])
    (fun _ => BoxF b3 34 [.pointer (some ⟨b, 0, none⟩)] :: fs)
    (fun cd k => cd = .ret ∧ k.2.2.2 ≠ 0 ∧ layW s at_ xs = (k.1, k.2.2.2)) (s, p, c) S
    (fun M w1 hM hF _ => hit M w1 hM (fun Φ h => hF Φ (by simp [h]))) ⟨⟨by simp, by simp⟩, rfl, rfl⟩ ?_ ?_ ?_ ?_
  · clear S
    rintro L D bL M' w1 i x vs ⟨s1, p1, c1⟩ W0 w hx ⟨hlw, hll⟩ hW0 hgr rfl
    have hi := hxl i x hx
    simp only [] at hlw hll
    have hdr : xs.drop i = x :: xs.drop (i + 1) := by rw [List.drop_eq_getElem_cons hi, (List.getElem?_eq_some_iff.1 hx).2]
    rw [hdr, layW] at hlw
    refine ⟨_, inferInstance, fun a S => ?_⟩
    simp only [] at S
    refine c_region ?_
    refine sa S ?_; clear S; intro b7 a w S
    refine sw S ?_; clear S; intro a w S
    refine wl_nil ?_
    refine xtn ?_
    refine rbegin (D := D) (b := bL) S ?_; clear S; intro a w S
    refine c_block ?_
    iterate 2 (refine c_seq ?_)
    refine c_region ?_
    iterate 3 (refine sq S ?_; clear S; intro a S)
    refine sit (dkI b m p1 c1 s1) S (dwrite_c b m p1 c1 s1 ((at_ + i : Nat) : Int) x _ (by omega) (S.it (dkI b m p1 c1 s1))) rfl ?_; clear S; rintro _ a w ⟨rfl, p2, c2, hh, hn⟩ hS
    have S := hS (dkI b m p2 c2 (wrD s1 ((at_ + i : Nat) : Int) x)) hh hn
    clear hS
    refine sq S ?_; clear S; intro a S
    refine wl_nil ?_
    refine xtn ?_
    refine c_seq ?_
    refine c_region ?_
    iterate 2 (refine sq S ?_; clear S; intro a S)
    refine wl_nil ?_
    refine xtn ?_
    refine c_cond S (fun h4 => ?_) (fun h4 => ?_)
    · refine c_seq ?_
      refine c_region ?_
      refine sq S ?_; clear S; intro a S
      refine sw S ?_; clear S; intro a w S
      refine wl_nil ?_
      refine xtn ?_
      refine c_ret ?_
      refine xtr ?_
      refine xbr ?_
      have he : askE s1 ((at_ + i : Nat) : Int) true ≠ 0 := by simpa using h4
      rw [if_neg he] at hlw
      replace S := S.sub [lpI L D (lpR bL .busy none), Wk.box b6 26 [.int .i64 (askE s1 ((at_ + i : Nat) : Int) true)], marks [], dkI b m p2 c2 (wrD s1 ((at_ + i : Nat) : Int) x)] (BoxF b3 34 [.pointer (some ⟨b, 0, none⟩)] :: fs)
      refine rret (D := D) (b := bL) S fun W hW => ⟨.inl rfl, (wrD s1 ((at_ + i : Nat) : Int) x, p2, c2, askE s1 ((at_ + i : Nat) : Int) true), ⟨rfl, he, hlw⟩, hW⟩
    · refine c_skip ?_
      refine xtn ?_
      refine c_region ?_
      iterate 2 (refine sq S ?_; clear S; intro a S)
      rw [show IntKind.i64.wrap (((at_ + i : Nat) : Int) + 1) = ((at_ + (i + 1) : Nat) : Int) from by rw [w64 _ (by omega) (by omega)]; rfl] at S
      refine sw S ?_; clear S; intro a w S
      refine wl_nil ?_
      refine xbn ?_
      have he : askE s1 ((at_ + i : Nat) : Int) true = 0 := by simpa using h4
      rw [if_pos he] at hlw
      replace S := S.sub [lpI L D (lpR bL .busy none), Wk.box b6 26 [.int .i64 0], Wk.box b4 3 [.int .i64 ((at_ + (i + 1) : Nat) : Int)], marks [], dkI b m p2 c2 (wrD s1 ((at_ + i : Nat) : Int) x)] (BoxF b3 34 [.pointer (some ⟨b, 0, none⟩)] :: fs)
      have := wrD_loose s1 ((at_ + i : Nat) : Int) x
      refine rnext (D := D) (b := bL) S fun W hW => ⟨(wrD s1 ((at_ + i : Nat) : Int) x, p2, c2), ⟨by rw [hlw]; congr 1, by show (wrD s1 ((at_ + i : Nat) : Int) x).loose.length ≤ _; omega⟩, hW⟩
  · clear S
    rintro D ⟨s1, p1, c1⟩ a w ⟨hlw, hll⟩ S
    simp only [List.drop_length, layW] at hlw hll S
    replace S := S.join (Ds := [])
    refine xbn ?_
    refine xtn ?_
    refine c_seq ?_
    refine c_region ?_
    refine sq S ?_; clear S; intro a S
    refine sit (dkI b m p1 c1 s1) S (dsync_c b m p1 c1 s1 _ (by omega) (S.it (dkI b m p1 c1 s1))) rfl ?_; clear S; rintro _ a w ⟨rfl, p2, c2, hh, hn⟩ hS
    have S := hS (dkI b m p2 c2 (syD s1)) hh hn
    clear hS
    refine sw S ?_; clear S; intro a w S
    refine wl_nil ?_
    refine xtn ?_
    refine c_ret ?_
    refine endM1 S (fun w hw => ?_)
    have e2 : layF s at_ xs = (syD s1, askE s1 0 true) := by rw [layF, hlw, if_pos rfl]
    rw [e2]
    exact ⟨rfl, p2, c2, hw.held (dkI b m p2 c2 (syD s1)) (by simp), hw.own (dkI b m p2 c2 (syD s1)) (by simp) rfl⟩
  · rintro D ⟨s1, p1, c1, e1⟩ a w ⟨-, he, hlw⟩ S
    simp only [] at S he hlw
    replace S := S.join (Ds := [])
    repeat (first | refine xbr ?_ | refine xtr ?_)
    refine endM1 S (fun w hw => ?_)
    have e2 : layF s at_ xs = (s1, e1) := by rw [layF, hlw, if_neg he]
    rw [e2]
    exact ⟨rfl, p1, c1, hw.held (dkI b m p1 c1 s1) (by simp), hw.own (dkI b m p1 c1 s1) (by simp) rfl⟩
  · rintro id D _ a w ⟨h, -⟩; cases h
end Go.Proofs.YtdakncgafdnjfaaGreat

/- Package wal: how many sectors, whether a field may have so many, a book's field, the next book. -/
namespace Go.Proofs.YtdakncgafdnjfaaGreat
open Go Go.Wk
set_option synthInstance.maxSize 100000
set_option synthInstance.maxHeartbeats 400000
set_option maxRecDepth 100000

def secF (n : Int) : Int := if n < 0 ∨ 40000 < n then 0 else (secN n.toNat : Int)
theorem sectors_c (n : Int) (w0 : World) : Ret Tryz.prog 78 [.int .i64 n] w0 (fun _ => False) fun v _ => v = .int .i64 (secF n) := by
  refine enter Tryz.func78 rfl rfl (Wd.start w0) (fun a S => ?_)
  simp only [Tryz.ntmps78, List.length_cons, List.length_nil, Nat.reduceAdd, Nat.reduceSub, List.replicate_succ, List.replicate_zero, List.cons_append, List.nil_append] at S
  refine c_seq ?_
  refine c_region ?_
  refine sq S ?_; clear S; intro a S
  refine wl_nil ?_
  refine xtn ?_
  refine c_seq ?_
  refine c_block ?_
  refine c_seq ?_
  refine c_region ?_
  iterate 3 (refine sq S ?_; clear S; intro a S)
  iterate 2 (refine gQ S ?_; clear S; intro a S)
  iterate 2 (refine sq S ?_; clear S; intro a S)
  refine wl_nil ?_
  refine xtn ?_
  refine c_cond S (fun h1 => ?_) (fun h1 => ?_)
  · refine c_seq ?_
    refine c_region ?_
    refine sq S ?_; clear S; intro a S
    refine wl_nil ?_
    refine xtn ?_
    refine c_ret ?_
    refine xbr ?_
    refine xtr ?_
    have h : n < 0 ∨ 40000 < n := by simpa using h1
    refine end1 S (fun _ => ?_)
    rw [secF, if_pos h]
  · refine c_seq ?_
    refine c_region ?_
    iterate 3 (refine sq S ?_; clear S; intro a S)
    refine wl_nil ?_
    refine xtn ?_
    refine c_cond S (fun h3 => ?_) (fun h3 => ?_)
    · refine c_seq ?_
      refine c_region ?_
      refine sq S ?_; clear S; intro a S
      refine wl_nil ?_
      refine xtn ?_
      refine c_ret ?_
      refine xbr ?_
      refine xtr ?_
      have h : n = 0 := by simpa using h3
      subst h
      refine end1 S (fun _ => ?_)
      rfl
    · refine c_skip ?_
      refine xbn ?_
      refine xtn ?_
      refine c_seq ?_
      refine c_region ?_
      iterate 5 (refine sq S ?_; clear S; intro a S)
      refine wl_nil ?_
      refine xtn ?_
      refine c_ret ?_
      have hn : ¬ (n < 0 ∨ 40000 < n) := by simpa using h1
      have h0 : n ≠ 0 := by simpa using h3
      refine end1 S (fun _ => ?_)
      rw [w64 (n + 48) (by omega) (by omega), w64 (n + 48 - 1) (by omega) (by omega), Int.tdiv_eq_ediv_of_nonneg (by omega), w64 _ (by omega) (by omega)]
      rw [secF, if_neg hn, secN, if_neg (by omega)]
      congr 1; omega
def mayF (s : DS) (n : Int) : Bool := decide (4 ≤ n ∧ n ≤ 1000 ∧ 2 * n + 2 ≤ s.size)
theorem may_no (b m : Nat) (p : Option Addr) (c k : Nat) (s : DS) (n : Int) (hn : ¬ (4 ≤ n ∧ n ≤ 1000)) (w0 : World) (hb : Stable (fun _ => False) w0 (BoxF b 170 (cDisk m p k c s))) : Ret Tryz.prog 73 [.pointer (some ⟨b, 0, none⟩), .int .i64 n] w0 (fun _ => False) fun v _ => v = .bool (mayF s n) := by
  refine enter Tryz.func73 rfl rfl (Wd.begin (fs := [BoxF b 170 (cDisk m p k c s)]) (by simpa using hb)) (fun a S => ?_)
  simp only [Tryz.ntmps73, List.length_cons, List.length_nil, Nat.reduceAdd, Nat.reduceSub, List.replicate_succ, List.replicate_zero, List.cons_append, List.nil_append] at S
  refine c_seq ?_
  refine c_region ?_
  refine sq S ?_; clear S; intro a S
  refine wl_nil ?_
  refine xtn ?_
  refine c_seq ?_
  refine c_region ?_
  iterate 3 (refine sq S ?_; clear S; intro a S)
  iterate 2 (refine gQ S ?_; clear S; intro a S)
  refine sq S ?_; clear S; intro a S
  rw [show (decide (4 ≤ n) && decide (n ≤ 1000)) = false from by simp; omega] at S
  refine sq S ?_; clear S; intro a S
  iterate 6 (refine gF S ?_; clear S; intro a S)
  iterate 2 (refine sq S ?_; clear S; intro a S)
  refine wl_nil ?_
  refine xtn ?_
  refine c_ret ?_
  refine end1 S (fun _ => ?_)
  rw [show mayF s n = false from by simp [mayF]; omega]
theorem may_yes (b m : Nat) (p : Option Addr) (c k : Nat) (s : DS) (n : Int) (hn : 4 ≤ n ∧ n ≤ 1000) (w0 : World) (hb : Stable (fun _ => False) w0 (BoxF b 170 (cDisk m p k c s))) : Ret Tryz.prog 73 [.pointer (some ⟨b, 0, none⟩), .int .i64 n] w0 (fun _ => False) fun v _ => v = .bool (mayF s n) := by
  refine enter Tryz.func73 rfl rfl (Wd.begin (fs := [BoxF b 170 (cDisk m p k c s)]) (by simpa using hb)) (fun a S => ?_)
  simp only [Tryz.ntmps73, List.length_cons, List.length_nil, Nat.reduceAdd, Nat.reduceSub, List.replicate_succ, List.replicate_zero, List.cons_append, List.nil_append] at S
  refine c_seq ?_
  refine c_region ?_
  refine sq S ?_; clear S; intro a S
  refine wl_nil ?_
  refine xtn ?_
  refine c_seq ?_
  refine c_region ?_
  iterate 3 (refine sq S ?_; clear S; intro a S)
  iterate 2 (refine gQ S ?_; clear S; intro a S)
  refine sq S ?_; clear S; intro a S
  rw [show (decide (4 ≤ n) && decide (n ≤ 1000)) = true from by simp; omega] at S
  refine sq S ?_; clear S; intro a S
  refine gT S ?_
  refine sq S ?_; clear S; intro a S
  refine gT S ?_
  refine sr S (len_c b m p k c s _ ((S.fact (Φ := BoxF b 170 (cDisk m p k c s)) (by simp)).less fun _ _ h => h.elim)) ?_; clear S; rintro _ a w rfl S
  refine gT S ?_
  refine sq S ?_; clear S; intro a S
  refine gT S ?_
  refine sq S ?_; clear S; intro a S
  refine gT S ?_
  refine sq S ?_; clear S; intro a S
  refine gT S ?_
  iterate 3 (refine sq S ?_; clear S; intro a S)
  refine wl_nil ?_
  refine xtn ?_
  refine c_ret ?_
  refine end1 S (fun _ => ?_)
  rw [w64 (2 * n) (by omega) (by omega), w64 (2 * n + 2) (by omega) (by omega)]
  rw [mayF, decide_eq_decide.2 (show (4 ≤ n ∧ n ≤ 1000 ∧ 2 * n + 2 ≤ s.size) ↔ 2 * n + 2 ≤ s.size from ⟨fun h => h.2.2, fun h => ⟨hn.1, hn.2, h⟩⟩)]
theorem may_c (b m : Nat) (p : Option Addr) (c k : Nat) (s : DS) (n : Int) (w0 : World) (hb : Stable (fun _ => False) w0 (BoxF b 170 (cDisk m p k c s))) : Ret Tryz.prog 73 [.pointer (some ⟨b, 0, none⟩), .int .i64 n] w0 (fun _ => False) fun v _ => v = .bool (mayF s n) := by
  by_cases h : 4 ≤ n ∧ n ≤ 1000
  · exact may_yes b m p c k s n h w0 hb
  · exact may_no b m p c k s n h w0 hb
abbrev cBook (b : Nat) (n turn : Int) : List Value := [.pointer (some ⟨b, 0, none⟩), .int .i64 n, .int .u32 turn]
def fromN (n : Nat) (turn : Int) : Nat := 2 + (turn % 2).toNat * n
theorem from_c (b n : Nat) (turn : Int) (hn : n ≤ 1000) (ht : 0 ≤ turn ∧ turn ≤ 4294967295) (w0 : World) : Ret Tryz.prog 81 [.agg ⟨cBook b n turn⟩] w0 (fun _ => False) fun v _ => v = .int .i64 ((fromN n turn : Nat) : Int) := by
  refine enter Tryz.func81 rfl rfl (Wd.start w0) (fun a S => ?_)
  simp only [Tryz.ntmps81, List.length_cons, List.length_nil, Nat.reduceAdd, Nat.reduceSub, List.replicate_succ, List.replicate_zero, List.cons_append, List.nil_append] at S
  refine c_seq ?_
  refine c_region ?_
  refine sa S ?_; clear S; intro b1 a w S
  refine sq S ?_; clear S; intro a S
  refine wl_nil ?_
  refine xtn ?_
  refine c_seq ?_
  refine c_region ?_
  iterate 9 (refine sq S ?_; clear S; intro a S)
  refine wl_nil ?_
  refine xtn ?_
  refine c_ret ?_
  refine end1 S (fun _ => ?_)
  have h0 : turn.tmod 2 = turn % 2 := Int.tmod_eq_emod_of_nonneg ht.1
  rw [h0]
  rcases (show turn % 2 = 0 ∨ turn % 2 = 1 by omega) with h | h
  · rw [fromN, h]; simp [w64]
  · rw [fromN, h, show IntKind.i64.wrap 1 = 1 from rfl, Int.one_mul, w64 (n : Int) (by omega) (by omega), w64 _ (by omega) (by omega)]; simp
def upT (turn : Int) : Int := IntKind.u32.wrap (turn + 1)
theorem next_c (b n : Nat) (turn : Int) (w0 : World) : Ret Tryz.prog 80 [.agg ⟨cBook b n turn⟩] w0 (fun _ => False) fun v _ => v = .agg ⟨cBook b n (upT turn)⟩ := by
  refine enter Tryz.func80 rfl rfl (Wd.start w0) (fun a S => ?_)
  simp only [Tryz.ntmps80, List.length_cons, List.length_nil, Nat.reduceAdd, Nat.reduceSub, List.replicate_succ, List.replicate_zero, List.cons_append, List.nil_append] at S
  refine c_seq ?_
  refine c_region ?_
  refine sa S ?_; clear S; intro b1 a w S
  refine sa S ?_; clear S; intro b2 a w S
  refine wl_nil ?_
  refine xtn ?_
  refine c_seq ?_
  refine c_region ?_
  iterate 8 (refine sq S ?_; clear S; intro a S)
  refine sw S ?_; clear S; intro a w S
  refine wl_nil ?_
  refine xtn ?_
  refine c_ret ?_
  refine end1 S (fun _ => ?_)
  rfl
end Go.Proofs.YtdakncgafdnjfaaGreat

/- Package wal: a book begins. -/
namespace Go.Proofs.YtdakncgafdnjfaaGreat
open Go Go.Wk
set_option synthInstance.maxSize 100000
set_option synthInstance.maxHeartbeats 400000
set_option maxRecDepth 100000

theorem begin2_c (g0 b m n : Nat) (p : Option Addr) (c : Nat) (s : DS) (turn : Int) (w0 : World) (hn : n ≤ 1000) (ht : 0 ≤ turn ∧ turn ≤ 4294967295) (hl : s.loose.length ≤ 999000) (hd : (dkI b m p c s).holds w0) (f0 : Stable (dkI b m p c s).foot w0 (BoxF g0 132 (cBook b n turn))) :
    Ret Tryz.prog 175 [.pointer (some ⟨g0, 0, none⟩)] w0 (dkI b m p c s).foot fun v w' => v = .int .i64 (layF s ((turn % 2).toNat : Nat) [titleF turn n]).2 ∧ ∃ p' c', (dkI b m p' c' (layF s ((turn % 2).toNat : Nat) [titleF turn n]).1).holds w' ∧ ∀ i, (dkI b m p' c' (layF s ((turn % 2).toNat : Nat) [titleF turn n]).1).foot i → (dkI b m p c s).foot i ∨ w0.heap.size ≤ i := by
  refine enter Tryz.func175 rfl rfl (Wd.itLent (x := dkI b m p c s) (fs := [BoxF g0 132 (cBook b n turn)]) hd (by intro Φ hΦ; obtain rfl := List.mem_singleton.1 hΦ; exact f0)) (fun a S => ?_)
  simp only [Tryz.ntmps175, List.length_cons, List.length_nil, Nat.reduceAdd, Nat.reduceSub, List.replicate_succ, List.replicate_zero, List.cons_append, List.nil_append] at S
  refine c_seq ?_
  refine c_region ?_
  refine sq S ?_; clear S; intro a S
  refine wl_nil ?_
  refine xtn ?_
  refine c_seq ?_
  refine c_drawE [(0, true), (1, true), (2, true), (3, true), (4, true), (5, true), (6, true), (7, true), (8, true), (9, true), (10, false), (11, false), (12, false), (13, true)] [] S ?_; clear S; intro w S
  iterate 6 (refine dq S ?_; clear S; intro a S)
  rw [show IntKind.i64.wrap (turn.tmod 2) = ((turn % 2).toNat : Int) from by rw [Int.tmod_eq_emod_of_nonneg ht.1, w64 _ (by omega) (by omega)]; omega] at S
  iterate 4 (refine dq S ?_; clear S; intro a S)
  refine dl ?_
  refine sr S (title_c turn n ht (by omega) _) ?_; clear S; rintro _ a w rfl S
  refine de S ?_
  refine dl ?_
  have hlt := foots_lt S
  refine sr S (only_f (titleF turn n) 1 _) ?_; clear S; rintro _ a w ⟨h0, h1, rfl, ⟨n0, n1⟩, e0, e1⟩ S
  replace S := S.add (Φ := BoxF h0 3 [.int .i64 ((1 : Nat) : Int)]) (BoxF.stable e0 (fun hm => by have := hlt _ hm; omega))
  replace S := S.add (Φ := BoxF h1 129 (encL (titleF turn n).l)) (BoxF.stable e1 (fun hm => by have := hlt _ hm; omega))
  refine de S ?_
  refine dl ?_
  refine sit (dkI b m p c s) S (lay_c 173 [.pointer (some ⟨h0, 0, none⟩), .pointer (some ⟨h1, 0, none⟩)] [titleF turn n] b m p c s (turn % 2).toNat [BoxF h1 129 (encL (titleF turn n).l), BoxF h0 3 [.int .i64 ((1 : Nat) : Int)]] _ (by simp; omega) (by simp; omega) (S.it (dkI b m p c s)) (fun Φ hΦ => S.lend (dkI b m p c s) (S.wd.facts Φ (List.mem_append_left _ hΦ))) (fun M w1 hM hF => only_it h0 h1 (titleF turn n) 1 (by omega) w1 M hM (hF _ (by simp)) (hF _ (by simp)))) rfl ?_; clear S; rintro _ a w ⟨rfl, p2, c2, hh, hn2⟩ hS
  have S := hS (dkI b m p2 c2 (layF s ((turn % 2).toNat : Nat) [titleF turn n]).1) hh hn2
  clear hS
  refine de S ?_
  refine dq S ?_; clear S; intro a S
  refine dn ?_
  refine xtn ?_
  refine c_ret ?_
  have h1 := S.itNew (dkI b m p2 c2 (layF s ((turn % 2).toNat : Nat) [titleF turn n]).1) rfl
  refine end1 S (fun _ => ⟨rfl, p2, c2, hh, h1⟩)
theorem begin1_c (g0 g1 b m n : Nat) (p : Option Addr) (c : Nat) (s : DS) (turn : Int) (bs : List UInt8) (q : Option Addr) (e : Nat) (w0 : World) (hn : n ≤ 1000) (ht : 0 ≤ turn ∧ turn ≤ 4294967295) (hbs : bs.length ≤ 40000) (hqe : bs.length ≤ e) (hl : s.loose.length ≤ 998000) (hd : (dkI b m p c s).holds w0) (f0 : Stable (dkI b m p c s).foot w0 (BoxF g0 132 (cBook b n turn))) (f1 : Stable (dkI b m p c s).foot w0 (BoxF g1 25 [.slice q bs.length e])) (f2 : Stable (dkI b m p c s).foot w0 (GlF q bs)) :
    Ret Tryz.prog 174 [.pointer (some ⟨g0, 0, none⟩), .pointer (some ⟨g1, 0, none⟩)] w0 (dkI b m p c s).foot fun v w' => v = .int .i64 (layF s (fromN n turn : Nat) (leavesF turn 0 bs)).2 ∧ ∃ p' c', (dkI b m p' c' (layF s (fromN n turn : Nat) (leavesF turn 0 bs)).1).holds w' ∧ ∀ i, (dkI b m p' c' (layF s (fromN n turn : Nat) (leavesF turn 0 bs)).1).foot i → (dkI b m p c s).foot i ∨ w0.heap.size ≤ i := by
  have hll : (leavesF turn 0 bs).length ≤ 840 := by rw [leavesF_len]; unfold secN; split <;> omega
  have hfr : fromN n turn ≤ 1002 := by
    unfold fromN
    rcases (show (turn % 2).toNat = 0 ∨ (turn % 2).toNat = 1 by omega) with h | h <;> rw [h] <;> omega
  refine enter Tryz.func174 rfl rfl (Wd.itLent (x := dkI b m p c s) (fs := [BoxF g0 132 (cBook b n turn), BoxF g1 25 [.slice q bs.length e], GlF q bs]) hd (by simp; exact ⟨f0, f1, f2⟩)) (fun a S => ?_)
  simp only [Tryz.ntmps174, List.length_cons, List.length_nil, Nat.reduceAdd, Nat.reduceSub, List.replicate_succ, List.replicate_zero, List.cons_append, List.nil_append] at S
  refine c_seq ?_
  refine c_region ?_
  refine sq S ?_; clear S; intro a S
  refine wl_nil ?_
  refine xtn ?_
  refine c_seq ?_
  refine c_drawE [(0, true), (1, true), (2, true), (4, true), (5, true), (6, true), (3, false), (7, false), (8, false), (9, true)] [] S ?_; clear S; intro w S
  iterate 6 (refine dq S ?_; clear S; intro a S)
  refine dl ?_
  refine sr S (from_c b n turn hn ht _) ?_; clear S; rintro _ a w rfl S
  refine de S ?_
  refine dl ?_
  have hlt := foots_lt S
  refine sr S (leaves_f turn 0 q bs.length e _) ?_; clear S; rintro _ a w ⟨h0, h1, h2, rfl, ⟨n0, n1, n2⟩, e0, e1, e2⟩ S
  replace S := S.add (Φ := BoxF h0 25 [.slice q bs.length e]) (BoxF.stable e0 (fun hm => by have := hlt _ hm; omega))
  replace S := S.add (Φ := BoxF h1 130 [.int .u32 turn]) (BoxF.stable e1 (fun hm => by have := hlt _ hm; omega))
  replace S := S.add (Φ := BoxF h2 130 [.int .u32 0]) (BoxF.stable e2 (fun hm => by have := hlt _ hm; omega))
  refine de S ?_
  refine dl ?_
  refine sit (dkI b m p c s) S (lay_c 177 [.pointer (some ⟨h0, 0, none⟩), .pointer (some ⟨h1, 0, none⟩), .pointer (some ⟨h2, 0, none⟩)] (leavesF turn 0 bs) b m p c s (fromN n turn) [BoxF h2 130 [.int .u32 0], BoxF h1 130 [.int .u32 turn], BoxF h0 25 [.slice q bs.length e], BoxF g0 132 (cBook b n turn), BoxF g1 25 [.slice q bs.length e], GlF q bs] _ (by omega) (by omega) (S.it (dkI b m p c s)) (fun Φ hΦ => S.lend (dkI b m p c s) (S.wd.facts Φ hΦ)) (fun M w1 hM hF => leaves_it turn 0 ht (by omega) h0 h1 h2 bs q e hbs hqe w1 M hM (hF _ (by simp)) (hF _ (by simp)) (hF _ (by simp)) (hF _ (by simp)))) rfl ?_; clear S; rintro _ a w ⟨rfl, p3, c3, hh, hn2⟩ hS
  have S := hS (dkI b m p3 c3 (layF s (fromN n turn : Nat) (leavesF turn 0 bs)).1) hh hn2
  clear hS
  refine de S ?_
  refine dq S ?_; clear S; intro a S
  refine dn ?_
  refine xtn ?_
  refine c_ret ?_
  have h1 := S.itNew (dkI b m p3 c3 (layF s (fromN n turn : Nat) (leavesF turn 0 bs)).1) rfl
  have hh := S.it (dkI b m p3 c3 (layF s (fromN n turn : Nat) (leavesF turn 0 bs)).1)
  refine end1 S (fun _ => ⟨rfl, p3, c3, hh, h1⟩)
end Go.Proofs.YtdakncgafdnjfaaGreat

/- Package wal: begin. -/
namespace Go.Proofs.YtdakncgafdnjfaaGreat
open Go Go.Wk
set_option synthInstance.maxSize 100000
set_option synthInstance.maxHeartbeats 400000
set_option maxRecDepth 100000

theorem askD_loose (s : DS) (k : Int) (b : Bool) : (askD s k b).loose = s.loose := by
  unfold askD; split
  · rfl
  · split
    · rfl
    · split
      · rfl
      · split <;> (try split) <;> rfl
theorem syD_loose (s : DS) : (syD s).loose.length ≤ s.loose.length := by
  unfold syD askedD
  split
  · simp [opD, settleD]
  · rw [askD_loose]; exact Nat.le_refl _
theorem layW_loose (xs : List Blk) : ∀ (s : DS) (k : Int), (layW s k xs).1.loose.length ≤ s.loose.length + xs.length := by
  induction xs with
  | nil => intro s k; exact Nat.le_refl _
  | cons x xs ih =>
    intro s k
    have h1 := wrD_loose s k x
    have h2 := ih (wrD s k x) (k + 1)
    rw [layW]
    split
    · rw [List.length_cons]; omega
    · rw [List.length_cons]; show (wrD s k x).loose.length ≤ _; omega
theorem layF_loose (s : DS) (k : Int) (xs : List Blk) : (layF s k xs).1.loose.length ≤ s.loose.length + xs.length := by
  have h1 := layW_loose xs s k
  have h2 := syD_loose (layW s k xs).1
  unfold layF
  split
  · show (syD (layW s k xs).1).loose.length ≤ _; omega
  · exact h1
/-- the i-th step of a beginning. -/
def wstepF (n : Nat) (turn : Int) (bs : List UInt8) (i : Nat) (s : DS) : DS × Int := if i = 0 then layF s (fromN n turn : Nat) (leavesF turn 0 bs) else layF s ((turn % 2).toNat : Nat) [titleF turn n]
def restF (n : Nat) (turn : Int) (bs : List UInt8) : Nat → DS → DS × Int
  | 0, s => if (wstepF n turn bs 0 s).2 = 0 then wstepF n turn bs 1 (wstepF n turn bs 0 s).1 else wstepF n turn bs 0 s
  | 1, s => wstepF n turn bs 1 s
  | _, s => (s, 0)
/-- a book begins. -/
def begF (n : Nat) (turn : Int) (bs : List UInt8) (s : DS) : DS × Int := restF n turn bs 0 s
theorem restF_step (n : Nat) (turn : Int) (bs : List UInt8) (i : Nat) (hi : i < 2) (s : DS) : restF n turn bs i s = if (wstepF n turn bs i s).2 = 0 then restF n turn bs (i + 1) (wstepF n turn bs i s).1 else wstepF n turn bs i s := by
  rcases (show i = 0 ∨ i = 1 by omega) with rfl | rfl
  · rfl
  · show wstepF n turn bs 1 s = if (wstepF n turn bs 1 s).2 = 0 then ((wstepF n turn bs 1 s).1, 0) else wstepF n turn bs 1 s
    split
    · rename_i h; rw [← h]
    · rfl
def stepFn (i : Nat) : Nat := if i = 0 then 174 else 175
def stepLb (g0 g1 i : Nat) : List Value := if i = 0 then [.pointer (some ⟨g0, 0, none⟩), .pointer (some ⟨g1, 0, none⟩)] else [.pointer (some ⟨g0, 0, none⟩)]
instance entStep {i : Nat} : EntF Tryz.prog (stepFn i) := by
  unfold stepFn
  split <;> infer_instance
theorem wstep_c (g0 g1 b m n : Nat) (p : Option Addr) (c : Nat) (s : DS) (turn : Int) (bs : List UInt8) (q : Option Addr) (e i : Nat) (w0 : World) (hn : n ≤ 1000) (ht : 0 ≤ turn ∧ turn ≤ 4294967295) (hbs : bs.length ≤ 40000) (hqe : bs.length ≤ e) (hl : s.loose.length ≤ 998000) (hd : (dkI b m p c s).holds w0) (f0 : Stable (dkI b m p c s).foot w0 (BoxF g0 132 (cBook b n turn))) (f1 : Stable (dkI b m p c s).foot w0 (BoxF g1 25 [.slice q bs.length e])) (f2 : Stable (dkI b m p c s).foot w0 (GlF q bs)) :
    Ret Tryz.prog (stepFn i) (stepLb g0 g1 i) w0 (dkI b m p c s).foot fun v w' => v = .int .i64 (wstepF n turn bs i s).2 ∧ ∃ p' c', (dkI b m p' c' (wstepF n turn bs i s).1).holds w' ∧ ∀ k, (dkI b m p' c' (wstepF n turn bs i s).1).foot k → (dkI b m p c s).foot k ∨ w0.heap.size ≤ k := by
  unfold stepFn stepLb wstepF
  split
  · exact begin1_c g0 g1 b m n p c s turn bs q e w0 hn ht hbs hqe hl hd f0 f1 f2
  · exact begin2_c g0 b m n p c s turn w0 hn ht (by omega) hd f0
theorem begin_c (b m n : Nat) (p : Option Addr) (c : Nat) (s : DS) (turn : Int) (bs : List UInt8) (q : Option Addr) (e : Nat) (w0 : World) (hn : n ≤ 1000) (ht : 0 ≤ turn ∧ turn ≤ 4294967295) (hbs : bs.length ≤ 40000) (hqe : bs.length ≤ e) (hl : s.loose.length ≤ 990000) (hd : (dkI b m p c s).holds w0) (f2 : Stable (dkI b m p c s).foot w0 (GlF q bs)) :
    Ret Tryz.prog 76 [.agg ⟨cBook b n turn⟩, .slice q bs.length e] w0 (dkI b m p c s).foot fun v w' => v = .int .i64 (begF n turn bs s).2 ∧ ∃ p' c', (dkI b m p' c' (begF n turn bs s).1).holds w' ∧ ∀ k, (dkI b m p' c' (begF n turn bs s).1).foot k → (dkI b m p c s).foot k ∨ w0.heap.size ≤ k := by
  have hll : (leavesF turn 0 bs).length ≤ 840 := by rw [leavesF_len]; unfold secN; split <;> omega
  have hst : ∀ i s, (wstepF n turn bs i s).1.loose.length ≤ s.loose.length + 840 := fun i s => by
    unfold wstepF
    split
    · have := layF_loose s (fromN n turn : Nat) (leavesF turn 0 bs); omega
    · have := layF_loose s ((turn % 2).toNat : Nat) [titleF turn n]; simp only [List.length_cons, List.length_nil] at this; omega
  refine enter Tryz.func76 rfl rfl (Wd.itLent (x := dkI b m p c s) (fs := [GlF q bs]) hd (by intro Φ hΦ; obtain rfl := List.mem_singleton.1 hΦ; exact f2)) (fun a S => ?_)
  simp only [Tryz.ntmps76, List.length_cons, List.length_nil, Nat.reduceAdd, Nat.reduceSub, List.replicate_succ, List.replicate_zero, List.cons_append, List.nil_append] at S
  refine c_seq ?_
  refine c_region ?_
  refine sa S ?_; clear S; intro b2 a w S
  refine sa S ?_; clear S; intro b3 a w S
  refine sq S ?_; clear S; intro a S
  refine wl_nil ?_
  refine xtn ?_
  refine c_seq ?_
  refine c_region ?_
  iterate 3 (refine sq S ?_; clear S; intro a S)
  refine sa S ?_; clear S; intro b5 a w S
  refine sw S ?_; clear S; intro a w S
  refine wl_nil ?_
  refine xtn ?_
  iterate 2 (refine c_seq ?_)
  refine c_region ?_
  iterate 2 (refine sq S ?_; clear S; intro a S)
  refine wl_nil ?_
  refine xtn ?_
  refine c_block ?_
  replace S := S.boxToF b3
  replace S := S.boxToF b2
  refine c_fore4 S (fun (i : Nat) (s' : DS) (p' : Option Addr) (c' : Nat) uu => [(4, uu 4), (2, uu 7), (0, uu 8), (4, .int .i64 (i : Nat)), (0, uu 14), (0, uu 15), (0, uu 16), (0, uu 17), (0, uu 18), (0, uu 19), (0, uu 20), (0, uu 21)]) (fun (i : Nat) (s' : DS) (p' : Option Addr) (c' : Nat) => [Wk.box b5 252 [.func (.func (stepFn 0)) #[] ⟨stepLb b2 b3 0⟩, .func (.func (stepFn 1)) #[] ⟨stepLb b2 b3 1⟩], dkI b m p' c' s']) (fun (i : Nat) (s' : DS) (p' : Option Addr) (c' : Nat) => [BoxF b2 132 (cBook b n turn), BoxF b3 25 [.slice q bs.length e], GlF q bs]) (fun (i : Nat) (s' : DS) (p' : Option Addr) (c' : Nat) => i ≤ 2 ∧ begF n turn bs s = restF n turn bs i s' ∧ s'.loose.length ≤ 990000 + 840 * i) (fun (i : Nat) (s' : DS) (p' : Option Addr) (c' : Nat) => 2 - i) (0) (s) (p) (c) ?_ S.uu ?_ ?_
  · exact ⟨by omega, rfl, by omega⟩
  · first | exact S | exact S.sub _ _
  · clear S; rintro i s' p' c' uu a w ⟨hi, hre, hsl⟩ S
    refine c_seq ?_
    refine c_region ?_
    refine sq S ?_; clear S; intro a S
    refine wl_nil ?_
    refine xtn ?_
    refine c_seq ?_
    refine c_cond S (fun h3 => ?_) (fun h3 => ?_)
    · refine c_skip ?_
      refine xtn ?_
      refine c_seq ?_
      refine c_block ?_
      refine c_seq ?_
      have hi2 : i < 2 := by have := of_decide_eq_true h3; omega
      rw [restF_step n turn bs i hi2] at hre
      refine c_region ?_
      refine sv (.func (.func (stepFn i)) #[] ⟨stepLb b2 b3 i⟩) S (fun hf => ?_) ?_
      · rcases (show i = 0 ∨ i = 1 by omega) with rfl | rfl
        · exact run_idx [.func (.func (stepFn 0)) #[] ⟨stepLb b2 b3 0⟩, .func (.func (stepFn 1)) #[] ⟨stepLb b2 b3 1⟩] 0 _ rfl rfl hf _
        · exact run_idx [.func (.func (stepFn 0)) #[] ⟨stepLb b2 b3 0⟩, .func (.func (stepFn 1)) #[] ⟨stepLb b2 b3 1⟩] 1 _ rfl rfl hf _
      clear S; intro a S
      refine sq S ?_; clear S; intro a S
      refine wl_nil ?_
      refine xtn ?_
      refine c_seq ?_
      refine c_region ?_
      refine sq S ?_; clear S; intro a S
      have hfs := fun Φ hΦ => S.lend (dkI b m p' c' s') (S.wd.facts Φ hΦ)
      refine sit (dkI b m p' c' s') S (wstep_c b2 b3 b m n p' c' s' turn bs q e i _ hn ht hbs hqe (by omega) (S.it (dkI b m p' c' s')) (hfs _ (by simp)) (hfs _ (by simp)) (hfs _ (by simp))) rfl ?_; clear S hfs; rintro _ a w ⟨rfl, p2, c2, hh, hn2⟩ hS
      have S := hS (dkI b m p2 c2 (wstepF n turn bs i s').1) hh hn2
      clear hS
      refine sq S ?_; clear S; intro a S
      refine wl_nil ?_
      refine xtn ?_
      refine c_seq ?_
      refine c_region ?_
      iterate 2 (refine sq S ?_; clear S; intro a S)
      refine wl_nil ?_
      refine xtn ?_
      refine c_cond S (fun h6 => ?_) (fun h6 => ?_)
      · refine c_seq ?_
        refine c_region ?_
        iterate 2 (refine sq S ?_; clear S; intro a S)
        refine wl_nil ?_
        refine xtn ?_
        refine c_ret ?_
        refine xbr ?_
        iterate 2 (refine xtr ?_)
        refine xbr ?_
        refine xtr ?_
        have he : (wstepF n turn bs i s').2 ≠ 0 := by simpa using h6
        rw [if_neg he] at hre
        have h1 := S.itNew (dkI b m p2 c2 (wstepF n turn bs i s').1) rfl
        refine end1 S (fun _ => ?_)
        rw [hre]
        exact ⟨rfl, p2, c2, hh, h1⟩
      · refine c_skip ?_
        refine xbn ?_
        refine xtn ?_
        refine c_region ?_
        iterate 2 (refine sq S ?_; clear S; intro a S)
        refine wl_nil ?_
        refine xtn ?_
        rw [show IntKind.i64.wrap ((i : Int) + 1) = ((i + 1 : Nat) : Int) from by rw [w64 _ (by omega) (by omega)]; rfl] at S
        have he : (wstepF n turn bs i s').2 = 0 := by simpa using h6
        rw [if_pos he] at hre
        have := hst i s'
        exact ⟨i + 1, (wstepF n turn bs i s').1, p2, c2, S.uu, ⟨by omega, hre, by omega⟩, S.sub _ _, by omega⟩
    · refine c_exit ?_
      iterate 2 (refine xte ?_)
      refine xbe ?_
      refine xtn ?_
      refine c_seq ?_
      refine c_region ?_
      refine sq S ?_; clear S; intro a S
      refine wl_nil ?_
      refine xtn ?_
      refine c_ret ?_
      have hi2 : i = 2 := by have := of_decide_eq_false h3; omega
      subst hi2
      have h1 := S.itNew (dkI b m p' c' s') rfl
      have hh := S.it (dkI b m p' c' s')
      refine end1 S (fun _ => ?_)
      rw [hre]
      exact ⟨rfl, p', c', hh, h1⟩
end Go.Proofs.YtdakncgafdnjfaaGreat

/- Package wal: a log as an item; Format. -/
namespace Go.Proofs.YtdakncgafdnjfaaGreat
open Go Go.Wk
set_option synthInstance.maxSize 100000
set_option synthInstance.maxHeartbeats 400000
set_option maxRecDepth 100000

/-- bytes that lie somewhere. -/
structure LBy where
  p : Option Addr
  c : Nat
  bs : List UInt8
abbrev cBy (x : LBy) : List Value := [.slice x.p x.bs.length x.c]
instance encBy : Enc LBy := ⟨1, cBy, fun _ => rfl, fun x u hu => by obtain rfl := List.mem_singleton.1 hu; rfl⟩
instance layBy : Lay LBy := { encBy with
  dflt := ⟨none, 0, []⟩
  inn := fun _ _ => True
  mono := fun _ _ _ _ _ => trivial }
instance : SzE LBy 1 := ⟨rfl, by decide⟩
instance {x : LBy} : CellsOf x [.slice x.p x.bs.length x.c] := ⟨rfl⟩
/-- entries are held. -/
def entI (said : List LBy) : Wk.Item where
  foot := fun k => ∃ x ∈ said, ∃ ad, x.p = some ad ∧ ad.block = k
  holds := fun w => ∀ x ∈ said, (∀ ad, x.p = some ad → ad.block < w.heap.size) ∧ GlF x.p x.bs w
theorem gl_loc {w1 w2 : World} {p : Option Addr} {bs : List UInt8} (hp : ∀ ad, p = some ad → w2.heap[ad.block]? = w1.heap[ad.block]?) (h : GlF p bs w1) : GlF p bs w2 :=
  ⟨⟨h.1.1, fun ad ha j u hj => by
    have h1 := h.1.2 ad ha j u hj
    have h2 : (ad.add j).block = ad.block := by unfold Addr.add; split <;> rfl
    unfold World.cell? at h1 ⊢
    rw [h2] at h1 ⊢
    rw [hp ad ha]; exact h1⟩, fun _ _ => trivial⟩
instance itEnt {said : List LBy} : ItOk (entI said) := ⟨fun w1 w2 h h1 x hx => ⟨fun ad ha => by
    have h2 := (h1 x hx).1 ad ha
    have h3 := h ad.block ⟨x, hx, ad, ha, rfl⟩
    rw [Array.getElem?_eq_getElem h2] at h3
    exact (Array.getElem?_eq_some_iff.1 h3).1, gl_loc (fun ad ha => h ad.block ⟨x, hx, ad, ha, rfl⟩) (h1 x hx).2⟩, fun w h k ⟨x, hx, ad, ha, hk⟩ => hk ▸ (h x hx).1 ad ha⟩
/-- a log. -/
structure WS where
  n : Nat
  turn : Int
  said : List LBy
  fin : Nat
  broken : Bool
abbrev cWal (b : Nat) (q : Option Addr) (e : Nat) (x : WS) : List Value := [.pointer (some ⟨b, 0, none⟩), .int .i64 (x.n : Int), .int .u32 x.turn, .slice q x.said.length e, .int .i64 (x.fin : Int), .bool x.broken]
abbrev walI (g b : Nat) (q : Option Addr) (e : Nat) (x : WS) : Wk.Item := both (Wk.box g 134 (cWal b q e x)) (both (Wk.row 25 1 q x.said.length e (encL x.said)) (entI x.said))
theorem St.addE {w0 : World} {M0 : Nat → Prop} {ds : List Deferred} {a : Act} {w : World} {l : List Value} {bs : List Wk.Item} {fs : List (World → Prop)} (S : St w0 M0 ds a w l bs fs) (y : Wk.Item) [oy : ItOk y] (hy : y.holds w) (hf : ∀ k, ¬ y.foot k) : St w0 M0 ds a w l (y :: bs) fs :=
  ⟨S.slots, S.defers, S.wd.addItem (Agree.refl _ _) hy (fun k hk => (hf k hk).elim) (fun k hk => (hf k hk).elim) oy.loc⟩
def fmtF (n : Nat) (s : DS) : DS × Int := if (layF s 0 (List.replicate (2 * n + 2) zB)).2 = 0 then begF n 0 [] (layF s 0 (List.replicate (2 * n + 2) zB)).1 else layF s 0 (List.replicate (2 * n + 2) zB)
def newW (n : Nat) : WS := ⟨n, 0, [⟨none, 0, []⟩], 1, false⟩
theorem format_c (b m n : Nat) (p : Option Addr) (c : Nat) (s : DS) (w0 : World) (hm : mayF s n = true) (hl : s.loose.length ≤ 980000) (hd : (dkI b m p c s).holds w0) :
    Ret Tryz.prog 18 [.pointer (some ⟨b, 0, none⟩), .int .i64 (n : Int)] w0 (dkI b m p c s).foot fun v w' =>
      ((fmtF n s).2 ≠ 0 ∧ v = .tuple ⟨[.pointer none, .int .i64 (fmtF n s).2]⟩ ∧ ∃ p' c', (dkI b m p' c' (fmtF n s).1).holds w' ∧ ∀ k, (dkI b m p' c' (fmtF n s).1).foot k → (dkI b m p c s).foot k ∨ w0.heap.size ≤ k) ∨
      ((fmtF n s).2 = 0 ∧ ∃ g p' c' q e, v = .tuple ⟨[.pointer (some ⟨g, 0, none⟩), .int .i64 0]⟩ ∧ (both (dkI b m p' c' (fmtF n s).1) (walI g b q e (newW n))).holds w' ∧ ∀ k, (both (dkI b m p' c' (fmtF n s).1) (walI g b q e (newW n))).foot k → (dkI b m p c s).foot k ∨ w0.heap.size ≤ k) := by
  have hn : n ≤ 1000 := by simp [mayF] at hm; omega
  have hlo := layF_loose s 0 (List.replicate (2 * n + 2) zB)
  rw [List.length_replicate] at hlo
  refine enter Tryz.func18 rfl rfl (Wd.itLent (x := dkI b m p c s) (fs := []) hd (by simp)) (fun a S => ?_)
  simp only [Tryz.ntmps18, List.length_cons, List.length_nil, Nat.reduceAdd, Nat.reduceSub, List.replicate_succ, List.replicate_zero, List.cons_append, List.nil_append] at S
  refine c_seq ?_
  refine c_region ?_
  iterate 2 (refine sq S ?_; clear S; intro a S)
  refine wl_nil ?_
  refine xtn ?_
  refine c_seq ?_
  refine c_block ?_
  refine c_seq ?_
  refine c_region ?_
  iterate 3 (refine sq S ?_; clear S; intro a S)
  refine wl_nil ?_
  refine xtn ?_
  refine c_condF S ?_
  refine c_seq ?_
  refine c_region ?_
  iterate 2 (refine sq S ?_; clear S; intro a S)
  have hdk : (dkI b m p c s).holds _ := S.it (dkI b m p c s)
  refine sr S (may_c b m p c s.loose.length s n _ (BoxF.stable hdk.1 (fun h => h))) ?_; clear S; rintro _ a w rfl S
  refine sq S ?_; clear S; intro a S
  rw [hm, show (!true) = false from rfl] at S
  refine sq S ?_; clear S; intro a S
  refine wl_nil ?_
  refine xtn ?_
  refine c_condF S ?_
  refine c_skip ?_
  refine xbn ?_
  refine xtn ?_
  iterate 2 (refine c_seq ?_)
  refine c_region ?_
  iterate 4 (refine sq S ?_; clear S; intro a S)
  rw [w64 (2 * (n : Int)) (by omega) (by omega)] at S
  refine sq S ?_; clear S; intro a S
  rw [show IntKind.i64.wrap (2 * (n : Int) + 2) = ((2 * n + 2 : Nat) : Int) from by rw [w64 _ (by omega) (by omega)]; rfl] at S
  have hlt := foots_lt S
  refine sr S (only_f zB (2 * n + 2) _) ?_; clear S; rintro _ a w ⟨h0, h1, rfl, ⟨n0, n1⟩, e0, e1⟩ S
  replace S := S.add (Φ := BoxF h0 3 [.int .i64 ((2 * n + 2 : Nat) : Int)]) (BoxF.stable e0 (fun hm => by have := hlt _ hm; omega))
  replace S := S.add (Φ := BoxF h1 129 (encL zB.l)) (BoxF.stable e1 (fun hm => by have := hlt _ hm; omega))
  refine sit (dkI b m p c s) S (lay_c 173 [.pointer (some ⟨h0, 0, none⟩), .pointer (some ⟨h1, 0, none⟩)] (List.replicate (2 * n + 2) zB) b m p c s 0 [BoxF h1 129 (encL zB.l), BoxF h0 3 [.int .i64 ((2 * n + 2 : Nat) : Int)]] _ (by rw [List.length_replicate]; omega) (by rw [List.length_replicate]; omega) (S.it (dkI b m p c s)) (fun Φ hΦ => S.lend (dkI b m p c s) (S.wd.facts Φ hΦ)) (fun M w1 hM hF => only_it h0 h1 zB (2 * n + 2) (by omega) w1 M hM (hF _ (by simp)) (hF _ (by simp)))) rfl ?_; clear S; rintro _ a w ⟨rfl, p2, c2, hh, hn2⟩ hS
  have S := hS (dkI b m p2 c2 (layF s 0 (List.replicate (2 * n + 2) zB)).1) hh hn2
  clear hS
  refine sq S ?_; clear S; intro a S
  refine wl_nil ?_
  refine xtn ?_
  refine c_seq ?_
  refine c_region ?_
  iterate 2 (refine sq S ?_; clear S; intro a S)
  refine wl_nil ?_
  refine xtn ?_
  refine c_cond S (fun h6 => ?_) (fun h6 => ?_)
  · refine c_seq ?_
    refine c_region ?_
    iterate 3 (refine sq S ?_; clear S; intro a S)
    refine wl_nil ?_
    refine xtn ?_
    refine c_ret ?_
    refine xtr ?_
    have he : (layF s 0 (List.replicate (2 * n + 2) zB)).2 ≠ 0 := by simpa using h6
    have h1 := S.itNew (dkI b m p2 c2 (layF s 0 (List.replicate (2 * n + 2) zB)).1) rfl
    refine end2 S (fun _ => .inl ?_)
    rw [fmtF, if_neg he]
    exact ⟨he, rfl, p2, c2, hh, h1⟩
  · refine c_skip ?_
    refine xtn ?_
    refine c_seq ?_
    have he : (layF s 0 (List.replicate (2 * n + 2) zB)).2 = 0 := by simpa using h6
    have hfm : fmtF n s = begF n 0 [] (layF s 0 (List.replicate (2 * n + 2) zB)).1 := by rw [fmtF, if_pos he]
    refine c_region ?_
    iterate 3 (refine sq S ?_; clear S; intro a S)
    refine sa S ?_; clear S; intro b7 a w S
    refine sw S ?_; clear S; intro a w S
    refine wl_nil ?_
    refine xtn ?_
    iterate 2 (refine c_seq ?_)
    refine c_region ?_
    refine sq S ?_; clear S; intro a S
    refine sit (dkI b m p2 c2 (layF s 0 (List.replicate (2 * n + 2) zB)).1) S (begin_c b m n p2 c2 (layF s 0 (List.replicate (2 * n + 2) zB)).1 0 [] none 0 _ hn (by omega) (by simp) (by simp) (by omega) (S.it (dkI b m p2 c2 (layF s 0 (List.replicate (2 * n + 2) zB)).1)) (fun w' _ => ⟨slNil (fun _ => False) w' w' (Agree.refl _ _), fun _ h => by cases h⟩)) rfl ?_; clear S; rintro _ a w ⟨rfl, p3, c3, hh, hn3⟩ hS
    have S := hS (dkI b m p3 c3 (begF n 0 [] (layF s 0 (List.replicate (2 * n + 2) zB)).1).1) hh hn3
    clear hS
    rw [← hfm] at S
    refine sq S ?_; clear S; intro a S
    refine wl_nil ?_
    refine xtn ?_
    refine c_seq ?_
    refine c_region ?_
    iterate 2 (refine sq S ?_; clear S; intro a S)
    refine wl_nil ?_
    refine xtn ?_
    refine c_cond S (fun h10 => ?_) (fun h10 => ?_)
    · refine c_seq ?_
      refine c_region ?_
      iterate 3 (refine sq S ?_; clear S; intro a S)
      refine wl_nil ?_
      refine xtn ?_
      refine c_ret ?_
      refine xtr ?_
      have he2 : (fmtF n s).2 ≠ 0 := by simpa using h10
      have h1 := S.itNew (dkI b m p3 c3 (fmtF n s).1) rfl
      have hh := S.it (dkI b m p3 c3 (fmtF n s).1)
      refine end2 S (fun _ => .inl ?_)
      exact ⟨he2, rfl, p3, c3, hh, h1⟩
    · refine c_skip ?_
      refine xtn ?_
      refine c_seq ?_
      refine c_region ?_
      refine sq S ?_; clear S; intro a S
      refine sn S ?_; clear S; intro b36 a w S
      refine sq S ?_; clear S; intro a S
      refine sa S ?_; clear S; intro b38 a w S
      iterate 2 (refine sq S ?_; clear S; intro a S)
      refine wl_nil ?_
      refine xtn ?_
      refine c_ret ?_
      have he2 : (fmtF n s).2 = 0 := by simpa using h10
      replace S := S.boxRow b36 1 1 rfl (by decide)
      replace S := St.addE S (entI (newW n).said) (fun x hx => by obtain rfl := List.mem_singleton.1 hx; exact ⟨fun ad h => (by cases h), gl_nil⟩) (fun k ⟨x, hx, ad, h, _⟩ => by obtain rfl := List.mem_singleton.1 hx; cases h)
      replace S := S.sub [entI (newW n).said, Wk.box b38 134 [.pointer (some ⟨b, 0, none⟩), .int .i64 (n : Int), .int .u32 0, .slice (some ⟨b36, 0, none⟩) 1 1, .int .i64 1, .bool false], Wk.row 25 1 (some ⟨b36, 0, none⟩) 1 1 [.slice none 0 0], dkI b m p3 c3 (fmtF n s).1] []
      have S := S.perm [Wk.box b38 134 (cWal b (some ⟨b36, 0, none⟩) 1 (newW n)), Wk.row 25 1 (some ⟨b36, 0, none⟩) 1 1 [.slice none 0 0], entI (newW n).said, dkI b m p3 c3 (fmtF n s).1] ((List.perm_append_comm (l₁ := [Wk.box b38 134 (cWal b (some ⟨b36, 0, none⟩) 1 (newW n)), Wk.row 25 1 (some ⟨b36, 0, none⟩) 1 1 [.slice none 0 0]]) (l₂ := [entI (newW n).said])).append_right [dkI b m p3 c3 (fmtF n s).1])
      have hh := St.hold4 S rfl rfl rfl rfl
      have h1 := St.new4 S rfl rfl rfl rfl
      refine end2 S (fun _ => .inr ?_)
      exact ⟨he2, b38, p3, c3, some ⟨b36, 0, none⟩, 1, rfl, hh, h1⟩
end Go.Proofs.YtdakncgafdnjfaaGreat

/- Package wal: what a log tells of itself. -/
namespace Go.Proofs.YtdakncgafdnjfaaGreat
open Go Go.Wk
set_option synthInstance.maxSize 100000
set_option synthInstance.maxHeartbeats 400000
set_option maxRecDepth 100000

theorem wleft_c (g b : Nat) (q : Option Addr) (e : Nat) (x : WS) (hs : x.said.length ≤ 1000000 ∧ 0 < x.said.length) (hf : x.fin ≤ 1000000) (hn : x.n ≤ 1000) (w0 : World) (hb : Stable (fun _ => False) w0 (BoxF g 134 (cWal b q e x))) : Ret Tryz.prog 100 [.pointer (some ⟨g, 0, none⟩)] w0 (fun _ => False) fun v _ => v = .int .i64 ((x.n : Int) - x.fin) := by
  refine enter Tryz.func100 rfl rfl (Wd.begin (fs := [BoxF g 134 (cWal b q e x)]) (by simpa using hb)) (fun a S => ?_)
  simp only [Tryz.ntmps100, List.length_cons, List.length_nil, Nat.reduceAdd, Nat.reduceSub, List.replicate_succ, List.replicate_zero, List.cons_append, List.nil_append] at S
  refine c_seq ?_
  refine c_region ?_
  refine sq S ?_; clear S; intro a S
  refine wl_nil ?_
  refine xtn ?_
  iterate 2 (refine c_seq ?_)
  refine c_region ?_
  iterate 2 (refine sq S ?_; clear S; intro a S)
  refine wl_nil ?_
  refine xtn ?_
  refine c_condF S ?_
  refine c_skip ?_
  refine xtn ?_
  refine c_seq ?_
  refine c_drawD [(0, true), (1, true), (2, true), (3, true), (4, true), (5, true), (6, true), (7, true), (8, true), (9, true), (10, true)] [] S ?_; clear S; intro w S
  iterate 11 (refine dq S ?_; clear S; intro a S)
  refine dn ?_
  refine xtn ?_
  refine c_ret ?_
  refine end1 S (fun _ => ?_)
  rw [w64 _ (by omega) (by omega)]
theorem wbroken_c (g b : Nat) (q : Option Addr) (e : Nat) (x : WS) (w0 : World) (hb : Stable (fun _ => False) w0 (BoxF g 134 (cWal b q e x))) : Ret Tryz.prog 99 [.pointer (some ⟨g, 0, none⟩)] w0 (fun _ => False) fun v _ => v = .bool x.broken := by
  refine enter Tryz.func99 rfl rfl (Wd.begin (fs := [BoxF g 134 (cWal b q e x)]) (by simpa using hb)) (fun a S => ?_)
  simp only [Tryz.ntmps99, List.length_cons, List.length_nil, Nat.reduceAdd, Nat.reduceSub, List.replicate_succ, List.replicate_zero, List.cons_append, List.nil_append] at S
  refine c_seq ?_
  refine c_region ?_
  refine sq S ?_; clear S; intro a S
  refine wl_nil ?_
  refine xtn ?_
  refine c_seq ?_
  refine c_region ?_
  iterate 3 (refine sq S ?_; clear S; intro a S)
  refine gT S ?_
  refine sq S ?_; clear S; intro a S
  refine gT S ?_
  refine sq S ?_; clear S; intro a S
  refine gT S ?_
  refine sq S ?_; clear S; intro a S
  refine gT S ?_
  iterate 3 (refine sq S ?_; clear S; intro a S)
  refine wl_nil ?_
  refine xtn ?_
  refine c_ret ?_
  refine end1 S (fun _ => ?_)
  rfl
def refF (x : WS) (bs : List UInt8) : Int := if 40000 < bs.length then 3 else if x.broken then 8 else 0
theorem refuses_c (g b : Nat) (q : Option Addr) (e : Nat) (x : WS) (y : LBy) (w0 : World) (hb : Stable (fun _ => False) w0 (BoxF g 134 (cWal b q e x))) : Ret Tryz.prog 77 [.pointer (some ⟨g, 0, none⟩), .slice y.p y.bs.length y.c] w0 (fun _ => False) fun v _ => v = .int .i64 (refF x y.bs) := by
  refine enter Tryz.func77 rfl rfl (Wd.begin (fs := [BoxF g 134 (cWal b q e x)]) (by simpa using hb)) (fun a S => ?_)
  simp only [Tryz.ntmps77, List.length_cons, List.length_nil, Nat.reduceAdd, Nat.reduceSub, List.replicate_succ, List.replicate_zero, List.cons_append, List.nil_append] at S
  refine c_seq ?_
  refine c_region ?_
  refine sq S ?_; clear S; intro a S
  refine wl_nil ?_
  refine xtn ?_
  refine c_seq ?_
  refine c_block ?_
  refine c_seq ?_
  refine c_region ?_
  iterate 3 (refine sq S ?_; clear S; intro a S)
  refine wl_nil ?_
  refine xtn ?_
  refine c_condF S ?_
  refine c_seq ?_
  refine c_region ?_
  iterate 4 (refine sq S ?_; clear S; intro a S)
  refine wl_nil ?_
  refine xtn ?_
  refine c_cond S (fun h3 => ?_) (fun h3 => ?_)
  · refine c_seq ?_
    refine c_region ?_
    refine sq S ?_; clear S; intro a S
    refine wl_nil ?_
    refine xtn ?_
    refine c_ret ?_
    refine xbr ?_
    refine xtr ?_
    have h : 40000 < y.bs.length := by have := of_decide_eq_true h3; omega
    refine end1 S (fun _ => ?_)
    rw [refF, if_pos h]
  · refine c_seq ?_
    refine c_region ?_
    iterate 5 (refine sq S ?_; clear S; intro a S)
    refine wl_nil ?_
    refine xtn ?_
    refine c_cond S (fun h5 => ?_) (fun h5 => ?_)
    · refine c_seq ?_
      refine c_region ?_
      refine sq S ?_; clear S; intro a S
      refine wl_nil ?_
      refine xtn ?_
      refine c_ret ?_
      refine xbr ?_
      refine xtr ?_
      have h : ¬ 40000 < y.bs.length := by have := of_decide_eq_false h3; omega
      have hx : x.broken = true := h5
      refine end1 S (fun _ => ?_)
      rw [refF, if_neg h, if_pos hx]
    · refine c_skip ?_
      refine xbn ?_
      refine xtn ?_
      refine c_seq ?_
      refine c_region ?_
      refine sq S ?_; clear S; intro a S
      refine wl_nil ?_
      refine xtn ?_
      refine c_ret ?_
      have h : ¬ 40000 < y.bs.length := by have := of_decide_eq_false h3; omega
      have hx : x.broken = false := h5
      refine end1 S (fun _ => ?_)
      rw [refF, if_neg h, hx]; rfl
end Go.Proofs.YtdakncgafdnjfaaGreat

/- Package wal: breaks, Snapshot. -/
namespace Go.Proofs.YtdakncgafdnjfaaGreat
open Go Go.Wk
set_option synthInstance.maxSize 100000
set_option synthInstance.maxHeartbeats 400000
set_option maxRecDepth 100000

def brkF (x : WS) (v : Int) : WS := { x with broken := x.broken || decide (v ≠ 0) }
end Go.Proofs.YtdakncgafdnjfaaGreat

/- Package wal: All. -/
namespace Go.Proofs.YtdakncgafdnjfaaGreat
open Go Go.Wk
set_option synthInstance.maxSize 100000
set_option synthInstance.maxHeartbeats 400000
set_option maxRecDepth 100000

def AllBy (came : List LBy) : World → Prop := fun w => ∀ y ∈ came, GlF y.p y.bs w
/-- what All tells: numbers from 1 on. -/
def toldL (came : List LBy) : List (Nat × LBy) := (List.range came.length).map fun k => (k + 1, nthG came k)
def toldE (x : Nat × LBy) (vs : List Value) (W0 W1 : World) : Prop := ∃ p' c', vs = [.int .i64 (x.1 : Int), .slice p' x.2.bs.length c'] ∧ W1.ownsRow 0 5 1 (.slice p' x.2.bs.length c') x.2.bs.length (encL x.2.bs) ∧ ∀ ad, p' = some ad → W0.heap.size ≤ ad.block
def allV (g : Nat) : Value := .func (.func 188) #[] ⟨[.pointer (some ⟨g, 0, none⟩)]⟩
end Go.Proofs.YtdakncgafdnjfaaGreat

/- Package wal: rows of blocks. -/
namespace Go.Proofs.YtdakncgafdnjfaaGreat
open Go Go.Wk
set_option synthInstance.maxSize 100000
set_option synthInstance.maxHeartbeats 400000
set_option maxRecDepth 100000

abbrev cBlk (x : Blk) : List Value := encL x.l
instance encBlk : Enc Blk := ⟨64, cBlk, fun x => x.len, fun x u hu => encL_one _ u hu⟩
instance layBlk : Lay Blk := { encBlk with
  dflt := zB
  inn := fun _ _ => True
  mono := fun _ _ _ _ _ => trivial }
instance : SzE Blk 64 := ⟨rfl, by decide⟩
instance {x : Blk} : CellsOf x (encL x.l) := ⟨rfl⟩
end Go.Proofs.YtdakncgafdnjfaaGreat

/- Package wal in plain words: leaves and titles, byte by byte. -/
namespace Go.Proofs.YtdakncgafdnjfaaGreat
open Go Go.Wk
set_option maxRecDepth 100000

theorem u8_nat (n : Int) : ((Wk.u8 n).toNat : Int) = n % 256 := by
  unfold Wk.u8
  rw [UInt8.toNat_ofNat']
  omega
theorem be4 (v : Int) : be 4 v = [Wk.u8 (v.fdiv 16777216), Wk.u8 (v.fdiv 65536), Wk.u8 (v.fdiv 256), Wk.u8 (v.fdiv 1)] := rfl
theorem be2 (v : Int) : be 2 v = [Wk.u8 (v.fdiv 256), Wk.u8 (v.fdiv 1)] := rfl
theorem num1 (c : UInt8) (bs : List UInt8) (x : Int) : numB (c :: bs) x = numB bs (IntKind.u64.wrap (IntKind.u64.wrap (256 * x) + (c.toNat : Int))) := rfl
theorem u32B_be (v : Int) (h : 0 ≤ v ∧ v ≤ 4294967295) (r : List UInt8) : u32B (be 4 v ++ r) = v := by
  have h1 := Int.fdiv_eq_ediv_of_nonneg v (b := 16777216) (by omega)
  have h2 := Int.fdiv_eq_ediv_of_nonneg v (b := 65536) (by omega)
  have h3 := Int.fdiv_eq_ediv_of_nonneg v (b := 256) (by omega)
  have h4 := Int.fdiv_eq_ediv_of_nonneg v (b := 1) (by omega)
  rw [u32B, List.take_left' (be_len 4 v), be4, num1, num1, num1, num1, u8_nat, u8_nat, u8_nat, u8_nat, h1, h2, h3, h4]
  show IntKind.u32.wrap (numB [] _) = v
  rw [show ∀ x, numB [] x = x from fun _ => rfl]
  rw [wu64 (256 * 0) (by omega) (by omega), wu64 (256 * 0 + _) (by omega) (by omega), wu64 (256 * (256 * 0 + _)) (by omega) (by omega), wu64 (256 * (256 * 0 + _) + _) (by omega) (by omega)]
  rw [wu64 (256 * (256 * (256 * 0 + _) + _)) (by omega) (by omega), wu64 (256 * (256 * (256 * 0 + _) + _) + _) (by omega) (by omega)]
  rw [wu64 (256 * (256 * (256 * (256 * 0 + _) + _) + _)) (by omega) (by omega), wu64 (256 * (256 * (256 * (256 * 0 + _) + _) + _) + _) (by omega) (by omega)]
  rw [wu32 _ (by omega) (by omega)]
  omega
theorem u16B_be (v : Int) (h : 0 ≤ v ∧ v ≤ 65535) (r : List UInt8) : u16B (be 2 v ++ r) = v := by
  have h3 := Int.fdiv_eq_ediv_of_nonneg v (b := 256) (by omega)
  have h4 := Int.fdiv_eq_ediv_of_nonneg v (b := 1) (by omega)
  rw [u16B, List.take_left' (be_len 2 v), be2, num1, num1, u8_nat, u8_nat, h3, h4]
  rw [show ∀ x, numB [] x = x from fun _ => rfl]
  rw [wu64 (256 * 0) (by omega) (by omega), wu64 (256 * 0 + _) (by omega) (by omega), wu64 (256 * (256 * 0 + _)) (by omega) (by omega), wu64 (256 * (256 * 0 + _) + _) (by omega) (by omega)]
  rw [wu16 _ (by omega) (by omega)]
  omega
theorem be4_inj {u v : Int} (hu : 0 ≤ u ∧ u ≤ 4294967295) (hv : 0 ≤ v ∧ v ≤ 4294967295) (h : be 4 u = be 4 v) : u = v := by
  rw [← u32B_be u hu [], ← u32B_be v hv [], h]
theorem wbe2_inj {u v : Int} (hu : 0 ≤ u ∧ u ≤ 65535) (hv : 0 ≤ v ∧ v ≤ 65535) (h : be 2 u = be 2 v) : u = v := by
  rw [← u16B_be u hu [], ← u16B_be v hv [], h]
theorem seal_drop {bs : List UInt8} (h : bs.length = 60) : (sealF bs).l.drop 4 = bs := by
  rw [sealF_l h, List.drop_left' (by rw [List.length_drop, shaF_len])]
/-! leaves -/
theorem leaf_drop (t j : Int) (bs : List UInt8) (k : Nat) : (leafF t j bs k).l.drop 4 = leafB t j bs.length (bs.drop (48 * k)) := seal_drop (leafB_len _ _ _ _)
theorem leaf_parts {t j t' j' : Int} {bs bs' : List UInt8} {k k' : Nat} (h : leafF t j bs k = leafF t' j' bs' k') :
    be 4 t = be 4 t' ∧ be 4 j = be 4 j' ∧ be 2 (bs.length : Int) = be 2 (bs'.length : Int) ∧ be 2 ((bs.drop (48 * k)).length : Int) = be 2 ((bs'.drop (48 * k')).length : Int) ∧ pad48 (bs.drop (48 * k)) = pad48 (bs'.drop (48 * k')) := by
  have h1 : leafB t j bs.length (bs.drop (48 * k)) = leafB t' j' bs'.length (bs'.drop (48 * k')) := by rw [← leaf_drop, ← leaf_drop, h]
  unfold leafB at h1
  obtain ⟨h1, e5⟩ := List.append_inj' h1 (by rw [pad48_len, pad48_len])
  obtain ⟨h1, e4⟩ := List.append_inj' h1 (by rw [be_len, be_len])
  obtain ⟨h1, e3⟩ := List.append_inj' h1 (by rw [be_len, be_len])
  obtain ⟨e1, e2⟩ := List.append_inj' h1 (by rw [be_len, be_len])
  exact ⟨e1, e2, e3, e4, e5⟩
/-- how much an entry has whose first leaf this is. -/
def sizeAt (x : Blk) : Int := u16B (x.l.drop 12)
/-- the bytes of leaves. -/
def gather (xs : List Blk) : List UInt8 := (xs.map fun x => x.l.drop 16).flatten
theorem secN_pos (n : Nat) : 0 < secN n := by unfold secN; split <;> omega
theorem secN_le (n : Nat) (h : n ≤ 40000) : secN n ≤ 834 := by unfold secN; split <;> omega
theorem leaves_get (t j : Int) (bs : List UInt8) (k : Nat) (h : k < secN bs.length) : (leavesF t j bs)[k]? = some (leafF t j bs k) := by
  rw [leavesF, List.getElem?_map, List.getElem?_range h]; rfl
/-- no leaf of a turn from this on, but of entries 0. -/
def Fresh (T : Int) (x : Blk) : Prop := ∀ t j bs k, T ≤ t → t ≤ 4294967295 → 1 ≤ j → j ≤ 4294967295 → x ≠ leafF t j bs k
theorem Fresh.mono {T T' : Int} {x : Blk} (h : Fresh T x) (hT : T ≤ T') : Fresh T' x := fun t j bs k h1 h2 h3 h4 => h t j bs k (Int.le_trans hT h1) h2 h3 h4
theorem fresh_zero (T : Int) : Fresh T zB := by
  intro t j bs k _ _ h3 h4 h
  have h1 : (zB.l.drop 4).drop 4 = be 4 j ++ (be 2 (bs.length : Int) ++ (be 2 ((bs.drop (48 * k)).length : Int) ++ pad48 (bs.drop (48 * k)))) := by
    rw [h, leaf_drop, leafB]
    simp only [List.append_assoc]
    rw [List.drop_left' (be_len _ _)]
  have h2 : u32B ((zB.l.drop 4).drop 4) = j := by rw [h1, u32B_be j (by omega)]
  have h5 : u32B ((zB.l.drop 4).drop 4) = 0 := by decide
  omega
theorem fresh_old (T t j : Int) (bs : List UInt8) (k : Nat) (ht : 0 ≤ t ∧ t ≤ 4294967295) (h : t < T) : Fresh T (leafF t j bs k) := by
  intro t' j' bs' k' h1 h2 _ _ e
  have := be4_inj ht (by omega) (leaf_parts e).1
  omega
/-- entries that a field has from a sector on. -/
def NoEntry (t j : Int) (tail : List Blk) : Prop := ∀ bs : List UInt8, bs.length ≤ 40000 → ¬ leavesF t j bs <+: tail
theorem noEntry_fresh {t j : Int} {tail : List Blk} (ht : t ≤ 4294967295) (hj : 1 ≤ j ∧ j ≤ 4294967295) (h : ∀ x ∈ tail, Fresh t x) : NoEntry t j tail := by
  intro bs _ ⟨r, hr⟩
  have h0 := leaves_get t j bs 0 (secN_pos _)
  have hm : leafF t j bs 0 ∈ tail := by rw [← hr]; exact List.mem_append_left _ (List.mem_of_getElem? h0)
  exact h _ hm t j bs 0 (Int.le_refl _) ht hj.1 hj.2 rfl
/-- the entry of a number that stands somewhere. -/
def standF (t : Int) (field : List Blk) (at_ : Nat) (j : Int) : Option (List UInt8) :=
  if field.length ≤ at_ then none else
  if (secF (sizeAt (nthG field at_))).toNat = 0 ∨ field.length - at_ < (secF (sizeAt (nthG field at_))).toNat then none else
  if leavesF t j ((gather ((field.drop at_).take (secF (sizeAt (nthG field at_))).toNat)).take (sizeAt (nthG field at_)).toNat) = (field.drop at_).take (secF (sizeAt (nthG field at_))).toNat then
    some ((gather ((field.drop at_).take (secF (sizeAt (nthG field at_))).toNat)).take (sizeAt (nthG field at_)).toNat) else none
theorem secF_nat (n : Nat) (h : n ≤ 40000) : secF (n : Int) = (secN n : Int) := by
  rw [secF, if_neg (by omega), Int.toNat_natCast]
/-- what a field has, from a sector and a number on. -/
def readF (t : Int) (field : List Blk) : Nat → Nat → Nat → List (List UInt8) × Nat
  | 0, at_, _ => ([], at_)
  | f + 1, at_, j => match standF t field at_ (j : Int) with
    | none => ([], at_)
    | some bs => (bs :: (readF t field f (at_ + secN bs.length) (j + 1)).1, (readF t field f (at_ + secN bs.length) (j + 1)).2)
/-- leaves of entries, from a number on. -/
def laidF (t : Int) : List (List UInt8) → Nat → List Blk
  | [], _ => []
  | b :: l, j => leavesF t (j : Int) b ++ laidF t l (j + 1)
theorem laidF_snoc (t : Int) (b : List UInt8) : ∀ (l : List (List UInt8)) (j : Nat), laidF t (l ++ [b]) j = laidF t l j ++ leavesF t ((j + l.length : Nat) : Int) b
  | [], j => by simp [laidF]
  | x :: l, j => by rw [List.cons_append, laidF, laidF, laidF_snoc t b l (j + 1), List.append_assoc, List.length_cons, show j + 1 + l.length = j + (l.length + 1) from by omega]
end Go.Proofs.YtdakncgafdnjfaaGreat

/- The laws of layer 4: what they ask and what they are handed. -/
namespace Go.Proofs.YtdakncgafdnjfaaGreat
open Go Go.Wk
set_option synthInstance.maxSize 100000
set_option synthInstance.maxHeartbeats 400000
set_option maxRecDepth 100000

def areaN (area : Int) : Nat := 4 + ((IntKind.u64.wrap area) % 20).toNat
/-- an act. -/
structure LAct where
  kind : Int
  n : Int
  fill : UInt8
  p : Option Addr
  c : Nat
  keep : List Bool
abbrev cAct (x : LAct) : List Value := [.int .i64 x.kind, .int .i64 x.n, .int .u8 (x.fill.toNat : Int), .slice x.p x.keep.length x.c]
def kindF (k : Int) : Int := IntKind.u64.wrap k % 8
end Go.Proofs.YtdakncgafdnjfaaGreat

/- The laws of layer 4: an act's bytes. -/
namespace Go.Proofs.YtdakncgafdnjfaaGreat
open Go Go.Wk
set_option synthInstance.maxSize 100000
set_option synthInstance.maxHeartbeats 400000
set_option maxRecDepth 100000

def rawN (n : Int) : Nat := (IntKind.u64.wrap n % 1300).toNat
def szAct (n : Int) : Nat := if 1298 ≤ rawN n then 40000 + rawN n - 1298 else rawN n
def byteF (x : LAct) (i : Nat) : UInt8 := Wk.u8 ((x.fill.toNat : Int) + ((Wk.u8 (i : Int)).toNat : Int))
def byAct (x : LAct) : List UInt8 := (List.range (szAct x.n)).map (byteF x)
end Go.Proofs.YtdakncgafdnjfaaGreat

/- The laws of layer 4: an act that takes something down. -/
namespace Go.Proofs.YtdakncgafdnjfaaGreat
open Go Go.Wk
set_option synthInstance.maxSize 100000
set_option synthInstance.maxHeartbeats 400000
set_option maxRecDepth 100000

def takingF (x : LAct) : LAct := { x with kind := kindF x.kind % 4, n := if x.n < 0 then 0 else x.n }
end Go.Proofs.YtdakncgafdnjfaaGreat

/- The laws of layer 4: a log on a new disk. -/
namespace Go.Proofs.YtdakncgafdnjfaaGreat
open Go Go.Wk
set_option synthInstance.maxSize 100000
set_option synthInstance.maxHeartbeats 400000
set_option maxRecDepth 100000

theorem dnew_dk (n : Int) (h : 1 ≤ n ∧ n ≤ 2048) (w0 : World) : Ret Tryz.prog 45 [.int .i64 n] w0 (fun _ => False) fun v w' => ∃ b m, v = .tuple ⟨[.pointer (some ⟨b, 0, none⟩), .int .i64 0]⟩ ∧ (dkI b m none 0 (newD n)).holds w' ∧ ∀ k, (dkI b m none 0 (newD n)).foot k → w0.heap.size ≤ k := by
  refine (dnew_c n h w0).mono fun v w' => ?_
  rintro ⟨b, m, rfl, hne, hb, hm, h1, h2⟩
  refine ⟨b, m, rfl, ⟨h1, ⟨h2, World.ownsRow_nil _ _ _ _, fun k _ ⟨ad, h, _⟩ => by cases h⟩, ?_⟩, ?_⟩
  · rintro k hk (hk2 | ⟨ad, h, _⟩)
    · exact hne ((show b = k from hk.symm).trans hk2)
    · cases h
  · rintro k (hk | hk | ⟨ad, h, _⟩)
    · exact (show k = b from hk) ▸ hb
    · exact (show k = m from hk) ▸ hm
    · cases h
end Go.Proofs.YtdakncgafdnjfaaGreat

/- Package wal: which book counts. -/
namespace Go.Proofs.YtdakncgafdnjfaaGreat
open Go Go.Wk
set_option synthInstance.maxSize 100000
set_option synthInstance.maxHeartbeats 400000
set_option maxRecDepth 100000

/-- the book that counts so far. -/
structure Bst where
  has : Bool
  n : Int
  t : Int
def ptB (b : Nat) (B : Bst) : Option Addr := if B.has then some ⟨b, 0, none⟩ else none
abbrev cBst (b : Nat) (B : Bst) : List Value := [.pointer (ptB b B), .int .i64 B.n, .int .u32 B.t]
/-- what a title tells: the length, the turn. -/
def tellN (x : Blk) : Int := u32B (x.l.drop 4)
def tellT (x : Blk) : Int := u32B ((x.l.drop 4).drop 4)
def candF (s : DS) (i : Nat) (x : Blk) (B : Bst) : Bool := mayF s (tellN x) && decide (tellT x % 2 = (i : Int)) && decide (x.l = (titleF (tellT x) (tellN x)).l) && (!B.has || decide (B.t < tellT x))
def cntStep (s : DS) (i : Nat) (x : Blk) (B : Bst) : Bst := if candF s i x B then ⟨true, tellN x, tellT x⟩ else B
def cntR : Nat → Nat → DS → Bst → DS × Int × Bst
  | 0, _, s, B => if B.has then (s, 0, B) else (s, 140, ⟨false, 0, 0⟩)
  | k + 1, i, s, B => if askE s (i : Int) false = 0 then cntR k (i + 1) (rdD s i) (cntStep (rdD s i) i (rdB s i) B) else (rdD s i, askE s i false, ⟨false, 0, 0⟩)
/-- the book that counts. -/
def cntF (s : DS) : DS × Int × Bst := cntR 2 0 s ⟨false, 0, 0⟩
end Go.Proofs.YtdakncgafdnjfaaGreat

/- Package wal: the entry that stands at a sector. -/
namespace Go.Proofs.YtdakncgafdnjfaaGreat
open Go Go.Wk
set_option synthInstance.maxSize 100000
set_option synthInstance.maxHeartbeats 400000
set_option maxRecDepth 100000

end Go.Proofs.YtdakncgafdnjfaaGreat

/- Package wal: what is left behind a log's end is laid over. -/
namespace Go.Proofs.YtdakncgafdnjfaaGreat
open Go Go.Wk
set_option synthInstance.maxSize 100000
set_option synthInstance.maxHeartbeats 400000
set_option maxRecDepth 100000

/-- noughts over what is no nought. -/
def clrW (fr : Nat) : List Blk → Nat → Bool → DS → DS × Int × Bool
  | [], _, sy, s => (s, 0, sy)
  | x :: xs, i, sy, s => if x.l = zB.l then clrW fr xs (i + 1) sy s else if askE s ((fr + i : Nat) : Int) true = 0 then clrW fr xs (i + 1) true (wrD s ((fr + i : Nat) : Int) zB) else (wrD s ((fr + i : Nat) : Int) zB, askE s ((fr + i : Nat) : Int) true, true)
def clrR (r : DS × Int × Bool) : DS × Int := if r.2.1 = 0 then (if r.2.2 then (syD r.1, askE r.1 0 true) else (r.1, 0)) else (r.1, r.2.1)
def clrF (fr fin : Nat) (field : List Blk) (s : DS) : DS × Int := clrR (clrW fr (field.drop fin) fin (decide (0 < s.loose.length)) s)
end Go.Proofs.YtdakncgafdnjfaaGreat

/- Package wal: Open. -/
namespace Go.Proofs.YtdakncgafdnjfaaGreat
open Go Go.Wk
set_option synthInstance.maxSize 100000
set_option synthInstance.maxHeartbeats 400000
set_option maxRecDepth 100000

section
variable {w0 : World} {M0 : Nat → Prop} {ds : List Deferred} {a : Act} {w : World} {l : List Value} {bs bs' : List Wk.Item} {fs : List (World → Prop)}
/-- an item is seen as another one. -/
theorem St.become (S : St w0 M0 ds a w l bs fs) (x y : Wk.Item) [hr : ReplI bs x y bs'] [oy : ItOk y] (hx : x.holds w) (h : x.holds w → y.holds w) (hf : ∀ k, y.foot k → x.foot k) (ho : x.own = true := by rfl) : St w0 M0 ds a w l bs' fs :=
  S.reput (x := x) (y := y) S.slots S.defers ho (Agree.refl _ _) (h hx) (fun k hk => .inl (hf k hk)) (oy.lt w (h hx)) oy.loc
theorem St.entAdd {xs ys : List LBy} (S : St w0 M0 ds a w l (entI ys :: entI xs :: bs) fs) : St w0 M0 ds a w l (entI (xs ++ ys) :: bs) fs := by
  have S1 := S.toBoth
  refine St.become S1 (both (entI ys) (entI xs)) (entI (xs ++ ys)) (S1.it (both (entI ys) (entI xs))) (fun h x hx => ?_) (fun k ⟨x, hx, h⟩ => ?_)
  · rcases List.mem_append.1 hx with hx | hx
    · exact h.2.1 x hx
    · exact h.1 x hx
  · rcases List.mem_append.1 hx with hx | hx
    · exact .inr ⟨x, hx, h⟩
    · exact .inl ⟨x, hx, h⟩
end
/-! a field is read -/
def fieldW (fr : Nat) : Nat → Nat → DS → DS × Int × List Blk
  | 0, _, s => (s, 0, [])
  | k + 1, i, s => if askE s ((fr + i : Nat) : Int) false = 0 then ((fieldW fr k (i + 1) (rdD s ((fr + i : Nat) : Int))).1, (fieldW fr k (i + 1) (rdD s ((fr + i : Nat) : Int))).2.1, rdB s ((fr + i : Nat) : Int) :: (fieldW fr k (i + 1) (rdD s ((fr + i : Nat) : Int))).2.2) else (rdD s ((fr + i : Nat) : Int), askE s ((fr + i : Nat) : Int) false, [])
/-- what an opening finds. -/
structure OW where
  n : Nat
  turn : Int
  said : List (List UInt8)
  fin : Nat
def noOW : OW := ⟨0, 0, [], 0⟩
def openC (n : Nat) (t : Int) (f : List Blk) (s : DS) : DS × Int × OW :=
  if (readF t f f.length 0 0).1 = [] then (s, 140, noOW) else
  if (clrF (fromN n t) (readF t f f.length 0 0).2 f s).2 = 0 then ((clrF (fromN n t) (readF t f f.length 0 0).2 f s).1, 0, ⟨n, t, (readF t f f.length 0 0).1, (readF t f f.length 0 0).2⟩)
  else ((clrF (fromN n t) (readF t f f.length 0 0).2 f s).1, (clrF (fromN n t) (readF t f f.length 0 0).2 f s).2, noOW)
def openB (n : Nat) (t : Int) (s : DS) : DS × Int × OW :=
  if (fieldW (fromN n t) n 0 s).2.1 = 0 then openC n t (fieldW (fromN n t) n 0 s).2.2 (fieldW (fromN n t) n 0 s).1 else ((fieldW (fromN n t) n 0 s).1, (fieldW (fromN n t) n 0 s).2.1, noOW)
def openF (s : DS) : DS × Int × OW := if (cntF s).2.1 = 0 then openB (cntF s).2.2.n.toNat (cntF s).2.2.t (cntF s).1 else ((cntF s).1, (cntF s).2.1, noOW)
/-- a row of entries, none or one. -/
def ptV : List LBy → Value
  | [] => .slice none 0 0
  | y :: _ => .slice y.p y.bs.length y.c
end Go.Proofs.YtdakncgafdnjfaaGreat

namespace Go.Wk
open Go
section
variable {P : Program} {r : Option Nat} {ops : Array Oper} {Q : Exit → Act → World → Prop} {w0 : World} {M0 : Nat → Prop} {ds : List Deferred} {a : Act} {w : World} {l : List Value} {bs bs' : List Item} {fs : List (World → Prop)}
  {d : Option Nat} {ty : TypeId} {pos : String} {af : Array Edge} {rest : List Oper} {f : Nat} {x : Operand} {ts : Array TypeId} {e : Exit}
/-- a call with arguments is deferred. -/
theorem sdefc {xs : List Operand} {fi ca vs : List Value} {l' : List Value} [hx : Ev ⟨[], l⟩ x (.func (.func f) ⟨fi⟩ ⟨ca⟩)] [he : EvL ⟨[], l⟩ xs vs] [hp : PutO l d undef l'] (S : St w0 M0 ds a w l bs fs)
    (K : ∀ a, St w0 M0 ({ target := .fn (.func f) ⟨ca⟩, args := (fi ++ vs).toArray } :: ds) a w l' bs fs → WL P none ops Q rest a w) :
    WL P none ops Q (⟨d, .defer { callee := .value x, args := xs.toArray, argTypes := ts }, ty, pos, af, none⟩ :: rest) a w := by
  refine wl_plain rfl ?_
  have hf : a.eval x = .func (.func f) ⟨fi⟩ ⟨ca⟩ := S.fr.ev
  have hev : xs.map a.eval = vs := S.fr.evl
  rw [Oper.semAt_none]
  have : (execOp a.eval ⟨d, .defer { callee := .value x, args := xs.toArray, argTypes := ts }, ty, pos, af, none⟩).run P w = .ok (.defer { target := .fn (.func f) ⟨ca⟩, args := (fi ++ vs).toArray }) w := by
    simp [execOp, resolve, hf, hev, Deferred.ofValue]
  rw [this]
  obtain ⟨t, dd⟩ := a
  have := S.slots; simp at this; subst this
  have hd := S.defers; simp at hd; subst hd
  show WL P none ops Q rest _ w
  rw [hp.eq]
  exact K _ ⟨rfl, rfl, S.wd⟩
/-- a function that is entered as a deferred call. -/
theorem enterDI {fn : Func} {c : Code} {args : List Value} {l : List Value} {R : Ending → World → Prop} {M0 : Nat → Prop} {bs : List Item} {fs : List (World → Prop)} {u : FrameMode}
    (hf : P.funcs[f]? = some fn) (hb : fn.body = some c) (hl : args ++ List.replicate (fn.ntmps - args.length) undef = l) (hw : Wd w M0 w bs fs)
    (h : ∀ a, St w M0 [] a w l bs fs → Wp P none c (bodyPost P fn R) a w) : CallsDIn (FW none) 0 P f args.toArray u w fun e u' w' => u' = u ∧ R e w' := by
  refine callsDIn_of_wp hf hb trivial (h _ ⟨?_, rfl, hw⟩)
  simp [← hl]
variable {fn : Func} {R : Value → World → Prop}
/-- the end, where nothing is deferred yet. -/
theorem endD1 {r1 : ResultVar} {v1 : Value} [hr : FnRes fn [r1]] [h1 : ResV P l bs r1 v1] (S : St w0 M0 [] a w l bs fs) (h : R v1 w) (he : e = .ret ∨ e = .normal := by simp) :
    bodyPostDIn (FW none) 0 P fn (fun e w' => ∃ v, e = .returned v ∧ Agree M0 w0 w' ∧ R v w') e a w := by
  have key : LeavesIn (FW none) 0 P fn a.tmps (fun e w' => ∃ v, e = .returned v ∧ Agree M0 w0 w' ∧ R v w') a.defers .returning w := by
    rw [S.defers]
    refine ⟨v1, ?_, v1, rfl, S.wd.agree, h⟩
    rw [S.slots, results_eq (rs := [r1])]
    simp [run_res (P := P) (l := l) (bs := bs) (rv := r1) (v := v1) w S.wd.held]
  rcases he with rfl | rfl <;> exact key
/-- the end, where one call was deferred that may write what one item holds. -/
theorem endDef1 {g : Nat} {ca vs : List Value} (x y : Item) [hri : ReplI bs x y bs'] [oy : ItOk y] [he : EntF P g] {r1 : ResultVar} {v1 : Value} [hr : FnRes fn [r1]] [h1 : ResV P l bs' r1 v1]
    (S : St w0 M0 [{ target := .fn (.func g) ⟨ca⟩, args := vs.toArray }] a w l bs fs) (hxo : x.own = true)
    (hc : CallsDIn (FW none) 0 P g (vs ++ ca).toArray .returning w fun e u' w' => u' = .returning ∧ ∃ v, e = .returned v ∧ Agree x.foot w w' ∧ y.holds w')
    (hf : ∀ k, y.foot k → x.foot k) (h : ∀ w', Wd w0 M0 w' bs' fs → R v1 w') (hx : e = .ret ∨ e = .normal := by simp) :
    bodyPostDIn (FW none) 0 P fn (fun e w' => ∃ v, e = .returned v ∧ Agree M0 w0 w' ∧ R v w') e a w := by
  have key : LeavesIn (FW none) 0 P fn a.tmps (fun e w' => ∃ v, e = .returned v ∧ Agree M0 w0 w' ∧ R v w') a.defers .returning w := by
    rw [S.defers]
    refine leavesIn_cons (f := g) (args := (vs ++ ca).toArray) (by simp) (fun h => by cases h) ?_ (fun _ _ => trivial) (hc.mono ?_)
    · have := he.run (vs ++ ca).toArray w
      simpa [invoke] using this
    · rintro e u' w' ⟨rfl, v, rfl, hag, hy⟩
      have hwd : Wd w0 M0 w' bs' fs := by
        obtain ⟨pre, post, q1, q2⟩ := hri.ex
        have hwd := S.wd
        rw [q1] at hwd
        rw [q2]
        exact hwd.swap hxo hag hy (fun k hk => .inl (hf k hk)) (oy.lt w' hy) oy.loc
      refine ⟨v1, ?_, v1, rfl, hwd.agree, h w' hwd⟩
      rw [S.slots, results_eq (rs := [r1])]
      simp [run_res (P := P) (l := l) (bs := bs') (rv := r1) (v := v1) w' hwd.held]
  rcases hx with rfl | rfl <;> exact key
end
end Go.Wk

namespace Go.Wk
open Go
section
variable {P : Program} {ops : Array Oper} {md : Region.Mode} {C : World → Prop}
/-- whatever order is picked from here on. -/
def ACL (last : Nat) (P : Program) (ops : Array Oper) (C : World → Prop) (R : Act → World → Prop) : Nat → Array Bool → Act → World → Prop
  | 0, listed, a, w => Region.ready .any ops listed = [] ∧ R a w
  | fuel + 1, listed, a, w =>
    (Region.ready .any ops listed = [] → R a w) ∧
    ∀ i ∈ Region.ready .any ops listed, WN P ops i (fun a' w' => (i ≠ last → C w') ∧ ACL last P ops C R fuel (listed.setIfInBounds i true) a' w') a w
variable {R : Act → World → Prop}
theorem acl_first {last i : Nat} {oi : Oper} {v : Value} (hi : ops[i]? = some oi) (hsel : ∀ (j : Nat) (o : Oper) cs b, ops[j]? = some o → o.op ≠ .select cs b) :
    (i ≠ last ∧ ∀ o, ops[last]? = some o → ∃ e ∈ o.after, Region.binds .any e = true ∧ e.on = i) → ∀ (fuel : Nat) (listed : Array Bool) (a : Act) (w : World),
      (∀ j oj, ops[j]? = some oj → j ≠ i → listed.getD j true = false → (∀ e ∈ oj.after, Region.binds .any e = true → e.on ≠ i) → oi.apart ops oj = true) →
      i ∈ Region.ready .any ops listed → YieldsC P ops C oi v a → C w →
      ACL last P ops C R fuel (listed.setIfInBounds i true) (a.put oi.dst v) w → ACL last P ops C R (fuel + 1) listed a w := by
  intro hlast fuel
  induction fuel with
  | zero =>
    intro listed a w _ hr hy hS H
    refine ⟨fun h => (by rw [h] at hr; cases hr), fun j hj => ?_⟩
    by_cases hji : j = i
    · subst hji; exact hy.wn hi hS ⟨fun _ => hS, H⟩
    · have := ready_mono hj hji
      rw [H.1] at this
      cases this
  | succ fuel ih =>
    intro listed a w hfree hr hy hS H
    refine ⟨fun h => (by rw [h] at hr; cases hr), fun j hj => ?_⟩
    by_cases hji : j = i
    · subst hji; exact hy.wn hi hS ⟨fun _ => hS, H⟩
    · have h1 := H.2 j (ready_mono hj hji)
      obtain ⟨hjun, oj, hoj, hall⟩ := mem_ready.1 hj
      have hnot : ∀ e ∈ oj.after, Region.binds .any e = true → e.on ≠ i := fun e he hb heq => by
        have h1 := hall e he hb
        have h0 := (mem_ready.1 hr).1
        rw [heq] at h1
        rcases Nat.lt_or_ge i listed.size with h' | h'
        · simp [h'] at h0 h1; rw [h0] at h1; cases h1
        · simp [Array.getElem?_eq_none h'] at h1
      have hjl : j ≠ last := fun e => by
        obtain ⟨e', he', hb', ho'⟩ := hlast.2 oj (e ▸ hoj)
        exact hnot e' he' hb' ho'
      have h2 := wn_put hoj (hfree j oj hoj hji hjun hnot) (fun cs b => hsel i oi cs b hi) (fun cs b => hsel j oj cs b hoj) hy h1
      have hfree' : ∀ k ok, ops[k]? = some ok → k ≠ i → (listed.setIfInBounds j true).getD k true = false →
          (∀ e ∈ ok.after, Region.binds .any e = true → e.on ≠ i) → oi.apart ops ok = true := fun k ok hk hki hun hno => by
        refine hfree k ok hk hki ?_ hno
        by_cases hjk : j = k
        · subst hjk; exact hjun
        · rw [getD_set_ne true hjk] at hun; exact hun
      refine wpOpIn_mono (fun a' w' h3 => ⟨h3.2.1, ih (listed.setIfInBounds j true) a' w' hfree' (ready_mono hr (Ne.symm hji)) h3.1 (h3.2.1 hjl) ?_⟩) h2
      rw [Array.setIfInBounds_comm _ _ hji]
      exact h3.2.2

variable {r : Option Nat} {Q : Exit → Act → World → Prop} {w0 : World} {M0 : Nat → Prop} {ds : List Deferred} {a : Act} {w : World} {l l' : List Value} {bs bs' bs0 : List Item} {fs fs0 : List (World → Prop)}
  {d : Option Nat} {op : Op} {ty : TypeId} {pos : String} {af : Array Edge} {rest : List Oper} {v v' G : Value} {j g : Nat} {pol : Bool} {cs : List Bool} {n : Nat} {listed : Array Bool}

def feeds (ops : Array Oper) (last i : Nat) : Bool := (!Nat.beq i last) && (match ops[last]? with | some o => o.after.toList.any fun e => Region.binds .any e && Nat.beq e.on i | none => false)
theorem feeds_spec {ops : Array Oper} {last i : Nat} (h : feeds ops last i = true) : i ≠ last ∧ ∀ o, ops[last]? = some o → ∃ e ∈ o.after, Region.binds .any e = true ∧ e.on = i := by
  simp only [feeds, Bool.and_eq_true, Bool.not_eq_true'] at h
  refine ⟨fun e => (by rw [e, Nat.beq_refl] at h; cases h.1), fun o ho => ?_⟩
  rw [ho] at h
  obtain ⟨e, he, h2⟩ := List.any_eq_true.1 h.2
  simp only [Bool.and_eq_true] at h2
  exact ⟨e, by simpa using he, h2.1, Nat.eq_of_beq_eq_true h2.2⟩
def flowFromL (last : Nat) (ops : Array Oper) : List (Nat × Bool) → Array Bool → Bool
  | [], listed => (Region.ready .any ops listed).isEmpty
  | (i, true) :: ord, listed => (((Region.ready .any ops listed).contains i && Region.free .any ops listed i) && feeds ops last i) && flowFromL last ops ord (listed.setIfInBounds i true)
  | (i, false) :: ord, listed => (match Region.ready .any ops listed with | [j] => Nat.beq j i | _ => false) && flowFromL last ops ord (listed.setIfInBounds i true)
/-- the region in one order that stands for all. -/
def AQL (last : Nat) (P : Program) (ops : Array Oper) (C : World → Prop) (R : Act → World → Prop) (ord : List (Nat × Bool)) (a : Act) (w : World) : Prop :=
  ∀ listed, Region.noSelect ops = true → flowFromL last ops ord listed = true → ACL last P ops C R ord.length listed a w
variable {ord : List (Nat × Bool)} {i last : Nat}
/-- a quiet operation comes first. -/
theorem dqL (S : St w0 M0 ds a w l bs fs) [hb : SubL bs0 bs] [hf : SubL fs0 fs] [ho : OpAt ops i ⟨d, op, ty, pos, af, none⟩] [hq : OpQ P op ty ⟨[], l⟩ bs0 fs0 v] [hp : PutO l d v l']
    (K : ∀ a, St w0 M0 ds a w l' bs fs → AQL last P ops (fun w => Wd w0 M0 w bs0 fs0) R ord a w) :
    AQL last P ops (fun w => Wd w0 M0 w bs0 fs0) R ((i, true) :: ord) a w := by
  intro listed hs hflow
  simp only [flowFromL, Bool.and_eq_true] at hflow
  refine acl_first ho.eq (Region.noSelect_spec hs) (feeds_spec hflow.1.2) _ listed a w (Region.free_spec ho.eq hflow.1.1.2) (by simpa using hflow.1.1.1) (v := v) (.inl ⟨rfl, fun w' hw' => ?_⟩) (S.wd.sub hb.sub hf.sub) (K _ S.put _ hs hflow.2)
  rw [execOp_eq]
  exact hq.run a.eval w' S.fr hw'.mem
/-- the one operation that may come up. -/
theorem dlL {o : Oper} {C : World → Prop} [ho : OpAt ops i o] (h : WL P none ops (fun e a' w' => e = .normal ∧ (i ≠ last → C w') ∧ AQL last P ops C R ord a' w') [o] a w) : AQL last P ops C R ((i, false) :: ord) a w := by
  intro listed hs hflow
  simp only [flowFromL, Bool.and_eq_true] at hflow
  have hr : Region.ready .any ops listed = [i] := by
    have := hflow.1
    split at this
    · rename_i k hk; rw [hk, Nat.eq_of_beq_eq_true this]
    · cases this
  refine ⟨fun h0 => (by rw [h0] at hr; cases hr), fun k hk => ?_⟩
  rw [hr] at hk
  obtain rfl : k = i := by simpa using hk
  unfold WN wpOpIn
  simp only [ho.eq]
  simp only [WL, wpListIn] at h
  split
  · rename_i hw
    rw [if_pos hw] at h
    refine ⟨fun _ _ => trivial, ?_⟩
    have h := h.2
    generalize (o.semAt (FW none).round a.eval).run P w = q at *
    cases q with
    | ok x w' =>
      cases x <;> simp only [Oper.uponIn] at h ⊢
      case value u => exact ⟨h.2.1, h.2.2 _ hs hflow.2⟩
      case skip => exact ⟨h.2.1, h.2.2 _ hs hflow.2⟩
      case defer d => exact ⟨h.2.1, h.2.2 _ hs hflow.2⟩
      case enter f args =>
        refine ⟨h.1, CallsIn.mono h.2 fun e w'' he => ?_⟩
        cases e with
        | returned u => exact ⟨he.2.1, he.2.2 _ hs hflow.2⟩
        | panicked c => exact absurd he.1 (by simp)
        | outgrown => obtain ⟨_, _, he, _⟩ := he; exact absurd he (by simp)
      case row row args => exact ⟨h.1, RowsIn.mono h.2 fun u w'' he => ⟨he.2.1, he.2.2 _ hs hflow.2⟩⟩
      case round l f tmps assign body =>
        refine ⟨h.1, RoundIn.mono h.2 fun e w'' he => ?_⟩
        cases e with
        | returned u => exact ⟨he.2.1, he.2.2 _ hs hflow.2⟩
        | panicked c => exact absurd he.1 (by simp)
        | outgrown => obtain ⟨_, _, he, _⟩ := he; exact absurd he (by simp)
    | halt x w' =>
      cases x <;> simp only [Oper.uponIn] at h ⊢
      case panic u => exact absurd h.1 (by simp)
  · rename_i hw
    rw [if_neg hw] at h
    exact ⟨fun _ _ => trivial, h.2.2.1, h.2.2.2 _ hs hflow.2⟩
/-- the loud operation is done. -/
theorem deL [hb : SubL bs0 bs] [hf : SubL fs0 fs] (S : St w0 M0 ds a w l bs fs) (h : AQL last P ops (fun w => Wd w0 M0 w bs0 fs0) R ord a w) : WL P none ops (fun e a' w' => e = .normal ∧ (i ≠ last → Wd w0 M0 w' bs0 fs0) ∧ AQL last P ops (fun w => Wd w0 M0 w bs0 fs0) R ord a' w') [] a w :=
  wl_nil ⟨rfl, fun _ => S.wd.sub hb.sub hf.sub, h⟩
/-- the last operation, which all others feed, is done. -/
theorem dzL {C : World → Prop} (h : R a w) (hr : ∀ listed, Region.noSelect ops = true → flowFromL last ops [] listed = true → Region.ready .any ops listed = [] := by intro listed _ h; simpa [flowFromL] using h) : WL P none ops (fun e a' w' => e = .normal ∧ (last ≠ last → C w') ∧ AQL last P ops C R [] a' w') [] a w :=
  wl_nil ⟨rfl, fun h => absurd rfl h, fun listed hs hf => ⟨hr listed hs hf, h⟩⟩
theorem any_of_acl (hd : ∀ (i : Nat) o, ops[i]? = some o → isDefer o.op = false) : ∀ (fuel : Nat) (listed : Array Bool) (a : Act) (w : World), ACL last P ops C (fun a w => Q .normal a w) fuel listed a w → wpAnyIn (FW r) 0 P .any ops Q fuel listed a w
  | 0, _, _, _, h => h
  | fuel + 1, _, _, _, h => ⟨h.1, fun i hi => wn_round hd (wpOpIn_mono (fun a' w' h' => any_of_acl hd fuel _ a' w' h'.2) (h.2 i hi))⟩
/-- a region that draws its order, and ends by what all else feeds. -/
theorem c_drawL {id : Nat} {lo : List Oper} (last : Nat) (ord : List (Nat × Bool)) (bs0 : List Item) (S : St w0 M0 ds a w l bs fs) (h : ∀ w, St w0 M0 ds a w l bs fs → AQL last P lo.toArray (fun w => Wd w0 M0 w bs0 fs) (fun a w => Q .normal a w) ord a w)
    (hm : P.follows .mixedOrders = true := by kernel_rfl) (hd : ((lo.all fun o => !isDefer o.op) && (Nat.beq ord.length lo.length && (Region.noSelect lo.toArray && flowFromL last lo.toArray ord (Array.replicate lo.length false)))) = true := by kernel_rfl) : Wp P r (.region id lo.toArray true) Q a w := by
  simp only [Bool.and_eq_true] at hd
  refine wpIn_region_any hm (any_of_acl (last := last) (C := fun w => Wd w0 M0 w bs0 fs) (fun i o ho => ?_) _ _ _ _ ?_)
  · have := List.all_eq_true.1 hd.1 o (by
      rw [List.getElem?_toArray] at ho
      exact List.mem_of_getElem? ho)
    simpa using this
  · have := h { w with drawn := w.drawn + 1 } ⟨S.slots, S.defers, S.wd.step (Agree.drawn _ w _)⟩ _ hd.2.2.1 hd.2.2.2
    rw [Nat.eq_of_beq_eq_true hd.2.1] at this
    simpa using this
end
end Go.Wk

/- Package wal: Append. -/
namespace Go.Proofs.YtdakncgafdnjfaaGreat
open Go Go.Wk
set_option synthInstance.maxSize 100000
set_option synthInstance.maxHeartbeats 400000
set_option maxRecDepth 100000

theorem breaks_d (g r b : Nat) (q : Option Addr) (e : Nat) (x : WS) (v : Int) (u : FrameMode) (w0 : World) (hb : (Wk.box g 134 (cWal b q e x)).holds w0) (hr : Stable (fun k => k = g) w0 (BoxF r 26 [.int .i64 v])) :
    CallsDIn (FW none) 0 Tryz.prog 79 [.pointer (some ⟨g, 0, none⟩), .pointer (some ⟨r, 0, none⟩)].toArray u w0 fun e' u' w' => u' = u ∧ ∃ v', e' = .returned v' ∧ Agree (fun k => k = g) w0 w' ∧ (Wk.box g 134 (cWal b q e (brkF x v))).holds w' := by
  refine enterDI Tryz.func79 rfl rfl (Wd.itLent (x := Wk.box g 134 (cWal b q e x)) (fs := [BoxF r 26 [.int .i64 v]]) hb (by intro Φ hΦ; obtain rfl := List.mem_singleton.1 hΦ; exact hr)) (fun a S => ?_)
  simp only [Tryz.ntmps79, List.length_cons, List.length_nil, Nat.reduceAdd, Nat.reduceSub, List.replicate_succ, List.replicate_zero, List.cons_append, List.nil_append] at S
  refine c_seq ?_
  refine c_region ?_
  iterate 4 (refine sq S ?_; clear S; intro a S)
  refine wl_nil ?_
  refine xtn ?_
  refine c_cond S (fun h0 => ?_) (fun h0 => ?_)
  · refine c_region ?_
    iterate 3 (refine sq S ?_; clear S; intro a S)
    refine sw S ?_; clear S; intro a w S
    refine wl_nil ?_
    have h : v ≠ 0 := by simpa using h0
    have hh := S.box g
    refine end0 (R := fun _ w' => (Wk.box g 134 (cWal b q e (brkF x v))).holds w') S (fun _ => ?_)
    rw [show brkF x v = { x with broken := true } from by simp [brkF, h]]
    exact hh
  · refine c_skip ?_
    have h : v = 0 := by simpa using h0
    have hh := S.box g
    refine end0 (R := fun _ w' => (Wk.box g 134 (cWal b q e (brkF x v))).holds w') S (fun _ => ?_)
    rw [show brkF x v = x from by simp [brkF, h]]
    exact hh
section
variable {w0 : World} {M0 : Nat → Prop} {ds : List Deferred} {a : Act} {w : World} {l : List Value} {bs bs' : List Wk.Item} {fs : List (World → Prop)}
/-- an entry that is held is still there when other memory is written. -/
theorem St.entGl {x : Wk.Item} {ys : List LBy} (S : St w0 M0 ds a w l bs fs) (hap : ∀ k, (entI ys).foot k → ¬ x.foot k) [HasIt bs (entI ys)] {y : LBy} (hy : y ∈ ys) : Stable x.foot w (GlF y.p y.bs) := by
  have h := (S.it (entI ys)) y hy
  exact fun w' ha => gl_loc (fun ad hp => ha.blk (h.1 ad hp) (hap ad.block ⟨y, hy, ad, hp, rfl⟩)) h.2
theorem ent_row {y : LBy} {e : TypeId} (h : (Wk.row e 1 y.p y.bs.length y.c (encL y.bs)).holds w) : (entI [y]).holds w := fun x hx => by
  obtain rfl := List.mem_singleton.1 hx
  exact ⟨fun ad hp => row_foot_lt h ad.block ⟨ad, hp, rfl⟩, (gl_own (M := fun _ => False) h (fun _ _ _ _ => trivial) (fun _ _ h => h)).now⟩
theorem St.rowEnt (S : St w0 M0 ds a w l bs fs) (y : LBy) {e : TypeId} [hr : ReplI bs (Wk.row e 1 y.p y.bs.length y.c (encL y.bs)) (entI [y]) bs'] (h : (Wk.row e 1 y.p y.bs.length y.c (encL y.bs)).holds w) : St w0 M0 ds a w l bs' fs :=
  St.become S (Wk.row e 1 y.p y.bs.length y.c (encL y.bs)) (entI [y]) h ent_row (fun k ⟨x, hx, ad, hp, hk⟩ => by obtain rfl := List.mem_singleton.1 hx; exact ⟨ad, hp, hk.symm⟩)
theorem St.ofWd {w0 : World} {M0 : Nat → Prop} {w : World} {bs : List Wk.Item} {fs : List (World → Prop)} (h : Wd w0 M0 w bs fs) : St w0 M0 [] ⟨#[], []⟩ w [] bs fs := ⟨rfl, rfl, h⟩
end
/-- why bytes are not taken down, if they are not. -/
def roomF (x : WS) (bs : List UInt8) : Int := if refF x bs = 0 then (if x.n - x.fin < secN bs.length then 6 else 0) else refF x bs
theorem refF_zero {x : WS} {bs : List UInt8} (h : refF x bs = 0) : bs.length ≤ 40000 ∧ x.broken = false := by
  unfold refF at h
  split at h
  · cases h
  · split at h
    · cases h
    · exact ⟨by omega, by rename_i h2; simpa using h2⟩
/-- a log behind an appending. -/
def appS (x : WS) (y : LBy) (r : Int) : WS := if r = 0 then { x with said := x.said ++ [y], fin := x.fin + secN y.bs.length } else { x with broken := true }
theorem append_c (g b m : Nat) (p : Option Addr) (c : Nat) (s : DS) (q : Option Addr) (e : Nat) (x : WS) (y : LBy) (w0 : World) (hn : x.n ≤ 1000) (hfi : x.fin ≤ x.n) (hsl : x.said.length ≤ 1000000 ∧ x.said.length ≤ e) (hs0 : 0 < x.said.length) (ht : 0 ≤ x.turn ∧ x.turn ≤ 4294967295) (hyl : y.bs.length ≤ 10000000) (hl : s.loose.length ≤ 980000)
    (hd : (both (dkI b m p c s) (walI g b q e x)).holds w0) (f0 : Stable (both (dkI b m p c s) (walI g b q e x)).foot w0 (GlF y.p y.bs)) :
    Ret Tryz.prog 20 [.pointer (some ⟨g, 0, none⟩), .slice y.p y.bs.length y.c] w0 (both (dkI b m p c s) (walI g b q e x)).foot fun v w' =>
      (roomF x y.bs ≠ 0 ∧ v = .int .i64 (roomF x y.bs) ∧ (both (dkI b m p c s) (walI g b q e x)).holds w') ∨
      (roomF x y.bs = 0 ∧ v = .int .i64 (layF s ((fromN x.n x.turn + x.fin : Nat) : Int) (leavesF x.turn (x.said.length : Int) y.bs)).2 ∧ ∃ p' c' q' e', ∃ y' : LBy, y'.bs = y.bs ∧ (x.said.length ≤ e') ∧
        (both (dkI b m p' c' (layF s ((fromN x.n x.turn + x.fin : Nat) : Int) (leavesF x.turn (x.said.length : Int) y.bs)).1) (walI g b q' e' (appS x y' (layF s ((fromN x.n x.turn + x.fin : Nat) : Int) (leavesF x.turn (x.said.length : Int) y.bs)).2))).holds w' ∧
        ∀ k, (both (dkI b m p' c' (layF s ((fromN x.n x.turn + x.fin : Nat) : Int) (leavesF x.turn (x.said.length : Int) y.bs)).1) (walI g b q' e' (appS x y' (layF s ((fromN x.n x.turn + x.fin : Nat) : Int) (leavesF x.turn (x.said.length : Int) y.bs)).2))).foot k → (both (dkI b m p c s) (walI g b q e x)).foot k ∨ w0.heap.size ≤ k) := by
  have hfr : fromN x.n x.turn ≤ 1002 := by
    unfold fromN
    rcases (show (x.turn % 2).toNat = 0 ∨ (x.turn % 2).toNat = 1 by omega) with h | h <;> rw [h] <;> omega
  refine enterD Tryz.func20 rfl rfl (Wd.it2Lent (x := dkI b m p c s) (y := walI g b q e x) (fs := [GlF y.p y.bs]) hd rfl rfl (by intro Φ hΦ; obtain rfl := List.mem_singleton.1 hΦ; exact f0)) (fun a S => ?_)
  simp only [Tryz.ntmps20, List.length_cons, List.length_nil, Nat.reduceAdd, Nat.reduceSub, List.replicate_succ, List.replicate_zero, List.cons_append, List.nil_append] at S
  replace S := S.front (walI g b q e x)
  replace S := St.open3 S
  refine c_seq ?_
  refine c_region ?_
  refine sa S ?_; clear S; intro b4 a w S
  refine wl_nil ?_
  refine xtn ?_
  iterate 2 (refine c_seq ?_)
  refine c_region ?_
  iterate 2 (refine sq S ?_; clear S; intro a S)
  refine sr S (refuses_c g b q e x y _ (BoxF.stable (S.boxF g) (fun h => h))) ?_; clear S; rintro _ a w rfl S
  refine sq S ?_; clear S; intro a S
  refine wl_nil ?_
  refine xtn ?_
  refine c_seq ?_
  refine c_region ?_
  iterate 2 (refine sq S ?_; clear S; intro a S)
  refine wl_nil ?_
  refine xtn ?_
  refine c_cond S (fun h2 => ?_) (fun h2 => ?_)
  · refine c_seq ?_
    refine c_region ?_
    refine sq S ?_; clear S; intro a S
    refine sw S ?_; clear S; intro a w S
    refine wl_nil ?_
    refine xtn ?_
    refine c_ret ?_
    refine xtr ?_
    have he : refF x y.bs ≠ 0 := by simpa using h2
    have hR : roomF x y.bs = refF x y.bs := by rw [roomF, if_neg he]
    have hh := St.hold4 (S.sub [Wk.box g 134 (cWal b q e x), Wk.row 25 1 q x.said.length e (encL x.said), entI x.said, dkI b m p c s] []) rfl rfl rfl rfl
    refine endD1 S (.inl ?_)
    rw [hR]
    exact ⟨he, rfl, hh⟩
  · refine c_skip ?_
    refine xtn ?_
    refine c_seq ?_
    have he : refF x y.bs = 0 := by simpa using h2
    obtain ⟨hy4, hbk⟩ := refF_zero he
    refine c_region ?_
    iterate 2 (refine sq S ?_; clear S; intro a S)
    refine sr S (sectors_c (y.bs.length : Int) _) ?_; clear S; rintro _ a w rfl S
    rw [secF_nat _ hy4] at S
    refine sq S ?_; clear S; intro a S
    refine wl_nil ?_
    refine xtn ?_
    iterate 2 (refine c_seq ?_)
    refine c_drawD [(0, true), (1, true), (2, true), (3, true), (4, true), (5, true), (6, true), (7, true), (8, true), (9, true), (10, true), (11, true)] [] S ?_; clear S; intro w S
    iterate 12 (refine dq S ?_; clear S; intro a S)
    refine dn ?_
    refine xtn ?_
    refine c_cond S (fun h5 => ?_) (fun h5 => ?_)
    · refine c_seq ?_
      refine c_region ?_
      refine sw S ?_; clear S; intro a w S
      refine wl_nil ?_
      refine xtn ?_
      refine c_ret ?_
      refine xtr ?_
      have hro : x.n - x.fin < secN y.bs.length := by
        have := of_decide_eq_true h5
        rw [w64 _ (by omega) (by omega)] at this; omega
      have hR : roomF x y.bs = 6 := by rw [roomF, if_pos he, if_pos hro]
      have hh := St.hold4 (S.sub [Wk.box g 134 (cWal b q e x), Wk.row 25 1 q x.said.length e (encL x.said), entI x.said, dkI b m p c s] []) rfl rfl rfl rfl
      refine endD1 S (.inl ?_)
      rw [hR]
      exact ⟨by decide, rfl, hh⟩
    · refine c_skip ?_
      refine xtn ?_
      refine c_seq ?_
      have hro : ¬ x.n - x.fin < secN y.bs.length := by
        have := of_decide_eq_false h5
        rw [w64 _ (by omega) (by omega)] at this; omega
      refine c_region ?_
      refine sq S ?_; clear S; intro a S
      refine sdefc S ?_; clear S; intro a S
      refine wl_nil ?_
      refine xtn ?_
      refine c_seq ?_
      refine c_region ?_
      refine sq S ?_; clear S; intro a S
      replace S := S.addNil 5 1
      refine sap S (by simp only [maxLen]; omega) (by omega) ?_; clear S; rintro p8 c8 a w - S
      rw [show ([] : List Value) ++ encL y.bs = encL y.bs from rfl, Nat.zero_add] at S
      have hc8 := own_le (S.row p8 y.bs.length)
      replace S := St.rowEnt S ⟨p8, c8, y.bs⟩ (S.row p8 y.bs.length)
      obtain ⟨y', hy'⟩ : ∃ y' : LBy, y' = ⟨p8, c8, y.bs⟩ := ⟨_, rfl⟩
      rw [← hy'] at S
      obtain ⟨R, hR⟩ : ∃ R, R = layF s ((fromN x.n x.turn + x.fin : Nat) : Int) (leavesF x.turn (x.said.length : Int) y.bs) := ⟨_, rfl⟩
      have hro0 : roomF x y.bs = 0 := by rw [roomF, if_pos he, if_neg hro]
      have hll : (leavesF x.turn (x.said.length : Int) y.bs).length ≤ 834 := by rw [leavesF_len]; exact secN_le _ hy4
      refine sq S ?_; clear S; intro a S
      refine wl_nil ?_
      refine xtn ?_
      iterate 2 (refine c_seq ?_)
      refine c_drawL 29 [(0, true), (1, true), (2, true), (3, true), (4, true), (5, true), (6, true), (7, true), (8, true), (10, true), (11, true), (12, true), (13, true), (15, true), (16, true), (17, true), (18, true), (19, true), (20, true), (21, true), (22, true), (23, true), (24, true), (25, true), (26, true), (9, false), (14, true), (27, false), (28, false), (29, false)] [Wk.box g 134 (cWal b q e x)] S ?_; clear S; intro w S
      iterate 24 (refine dqL S ?_; clear S; intro a S)
      rw [wu32 (x.said.length : Int) (by omega) (by omega)] at S
      refine dqL S ?_; clear S; intro a S
      refine dlL ?_
      refine sr S (from_c b x.n x.turn hn ht _) ?_; clear S; rintro _ a w rfl S
      refine deL S ?_
      refine dqL S ?_; clear S; intro a S
      rw [show IntKind.i64.wrap ((fromN x.n x.turn : Int) + (x.fin : Int)) = ((fromN x.n x.turn + x.fin : Nat) : Int) from by rw [w64 _ (by omega) (by omega)]; rfl] at S
      refine dlL ?_
      have hlt := foots_lt S
      refine sr S (leaves_f x.turn (x.said.length : Int) p8 y.bs.length c8 _) ?_; clear S; rintro _ a w ⟨h0, h1, h2', rfl, ⟨n0, n1, n2⟩, e0, e1, e2⟩ S
      replace S := S.add (Φ := BoxF h0 25 [.slice p8 y.bs.length c8]) (BoxF.stable e0 (fun hm => by have := hlt _ hm; omega))
      replace S := S.add (Φ := BoxF h1 130 [.int .u32 x.turn]) (BoxF.stable e1 (fun hm => by have := hlt _ hm; omega))
      replace S := S.add (Φ := BoxF h2' 130 [.int .u32 (x.said.length : Int)]) (BoxF.stable e2 (fun hm => by have := hlt _ hm; omega))
      refine deL S ?_
      refine dlL ?_
      have hgl : Stable (dkI b m p c s).foot w (GlF y'.p y'.bs) := St.entGl S (fun k hk hk2 => St.apart2 S (entI [y']) (dkI b m p c s) k hk hk2) (by simp)
      rw [hy'] at hgl
      refine sit (dkI b m p c s) S (lay_c 177 [.pointer (some ⟨h0, 0, none⟩), .pointer (some ⟨h1, 0, none⟩), .pointer (some ⟨h2', 0, none⟩)] (leavesF x.turn (x.said.length : Int) y.bs) b m p c s (fromN x.n x.turn + x.fin) [GlF p8 y.bs, BoxF h2' 130 [.int .u32 (x.said.length : Int)], BoxF h1 130 [.int .u32 x.turn], BoxF h0 25 [.slice p8 y.bs.length c8]] _ (by omega) (by omega) (S.it (dkI b m p c s)) (fun Φ hΦ => by
        rcases List.mem_cons.1 hΦ with rfl | hΦ
        · exact hgl
        · exact S.lend (dkI b m p c s) (S.wd.facts Φ (List.mem_append_left _ hΦ))) (fun M w1 hM hF => leaves_it x.turn (x.said.length : Int) ht (by omega) h0 h1 h2' y.bs p8 c8 hy4 hc8 w1 M hM (hF _ (by simp)) (hF _ (by simp)) (hF _ (by simp)) (hF _ (by simp)))) rfl ?_; clear S hgl; rintro _ a w ⟨rfl, p2, c2, hh, hn2⟩ hS
      have S := hS (dkI b m p2 c2 (layF s ((fromN x.n x.turn + x.fin : Nat) : Int) (leavesF x.turn (x.said.length : Int) y.bs)).1) hh hn2
      clear hS
      rw [← hR] at S
      refine deL S ?_
      refine dlL ?_
      refine sw S ?_; clear S; intro a w S
      refine dzL ?_
      refine xtn ?_
      refine c_seq ?_
      refine c_region ?_
      iterate 2 (refine sq S ?_; clear S; intro a S)
      refine wl_nil ?_
      refine xtn ?_
      refine c_cond S (fun h10 => ?_) (fun h10 => ?_)
      · refine c_seq ?_
        have hR2 : R.2 = 0 := of_decide_eq_true h10
        obtain ⟨gq, cur, hq, -⟩ := own_cells (S.row q x.said.length) hs0
        have hLe : LeC x.said.length e := ⟨hsl.2⟩
        have hLl : LeC x.said.length x.said.length := ⟨Nat.le_refl _⟩
        have hL0 : LeC 0 x.said.length := ⟨Nat.zero_le _⟩
        subst hq
        refine c_drawL 21 [(0, true), (1, true), (2, true), (3, true), (4, true), (5, true), (6, true), (7, true), (8, true), (9, true), (10, true), (11, true), (12, true), (13, true), (14, true), (15, true), (16, true), (17, false), (18, false), (19, false), (20, true), (21, false)] [Wk.box g 134 (cWal b (some ⟨gq, 0, none⟩) e x)] S ?_; clear S; intro w S
        iterate 17 (refine dqL S ?_; clear S; intro a S)
        refine dlL ?_
        refine sn S ?_; clear S; intro b80 a w S
        refine deL S ?_
        refine dlL ?_
        have hrow := S.row (some ⟨gq, 0, none⟩) x.said.length
        refine sapG ⟨gq, 0, none⟩ x.said.length (encL x.said) S (by rw [encL_len]; rfl) (fun j u hj => (own_sl hrow).2 _ rfl j u hj) (by omega) (by simp only [maxLen]; omega) (by omega) ?_
        clear S; intro g2 c2' a w S
        rw [show encL x.said ++ [.slice p8 y.bs.length c8] = encL (x.said ++ [y']) from by rw [hy', encL_append]; rfl] at S
        refine deL S ?_
        refine dlL ?_
        refine sq S ?_; clear S; intro a S
        refine deL S ?_
        refine dqL S ?_; clear S; intro a S
        refine dlL ?_
        refine sw S ?_; clear S; intro a w S
        refine dzL ?_
        refine xtn ?_
        refine c_region ?_
        iterate 6 (refine sq S ?_; clear S; intro a S)
        rw [show IntKind.i64.wrap ((x.fin : Int) + (secN y.bs.length : Int)) = ((x.fin + secN y.bs.length : Nat) : Int) from by rw [w64 _ (by omega) (by omega)]; rfl] at S
        iterate 2 (refine sq S ?_; clear S; intro a S)
        refine sw S ?_; clear S; intro a w S
        refine wl_nil ?_
        refine xtn ?_
        refine c_seq ?_
        refine c_region ?_
        refine sq S ?_; clear S; intro a S
        refine sw S ?_; clear S; intro a w S
        refine wl_nil ?_
        refine xtn ?_
        refine c_ret ?_
        obtain ⟨x', hx'⟩ : ∃ x' : WS, x' = { x with said := x.said ++ [y'], fin := x.fin + secN y.bs.length } := ⟨_, rfl⟩
        have hya : y'.bs = y.bs := by rw [hy']
        have hap : appS x y' R.2 = x' := by rw [appS, if_pos hR2, hx', hya]
        have hbr : brkF x' R.2 = x' := by rw [brkF, hR2]; simp
        replace S := S.sub [Wk.row 25 1 (some ⟨g2, 0, none⟩) (x.said.length + 1) c2' (encL (x.said ++ [y'])), entI [y'], Wk.box b4 26 [.int .i64 R.2], Wk.box g 134 [.pointer (some ⟨b, 0, none⟩), .int .i64 (x.n : Int), .int .u32 x.turn, .slice (some ⟨g2, 0, none⟩) (x.said.length + 1) c2', .int .i64 ((x.fin + secN y.bs.length : Nat) : Int), .bool x.broken], entI x.said, dkI b m p2 c2 R.1] []
        replace S := S.front (entI x.said)
        replace S := S.front (entI [y'])
        replace S := St.entAdd S
        rw [show x.said.length + 1 = x'.said.length from by rw [hx']; simp] at S
        replace S := St.items S (bs' := [entI x'.said, Wk.row 25 1 (some ⟨g2, 0, none⟩) x'.said.length c2' (encL x'.said), Wk.box b4 26 [.int .i64 R.2], Wk.box g 134 (cWal b (some ⟨g2, 0, none⟩) c2' x'), dkI b m p2 c2 R.1]) (by rw [hx'])
        have hc2 := own_le (S.row (some ⟨g2, 0, none⟩) x'.said.length)
        have hne : ¬ b4 = g := St.apart2 S (Wk.box b4 26 [.int .i64 R.2]) (Wk.box g 134 (cWal b (some ⟨g2, 0, none⟩) c2' x')) b4 rfl
        refine endDef1 (Wk.box g 134 (cWal b (some ⟨g2, 0, none⟩) c2' x')) (Wk.box g 134 (cWal b (some ⟨g2, 0, none⟩) c2' (brkF x' R.2))) S rfl ((breaks_d g b4 b (some ⟨g2, 0, none⟩) c2' x' R.2 .returning w (S.box g) (BoxF.stable (S.boxF b4) hne)).mono fun _ _ _ h => h) (fun _ h => h) (fun w' hwd => ?_)
        rw [hbr] at hwd
        have S2 := (St.ofWd hwd).sub [entI x'.said, Wk.row 25 1 (some ⟨g2, 0, none⟩) x'.said.length c2' (encL x'.said), Wk.box g 134 (cWal b (some ⟨g2, 0, none⟩) c2' x'), dkI b m p2 c2 R.1] []
        have S3 := S2.perm [Wk.box g 134 (cWal b (some ⟨g2, 0, none⟩) c2' x'), Wk.row 25 1 (some ⟨g2, 0, none⟩) x'.said.length c2' (encL x'.said), entI x'.said, dkI b m p2 c2 R.1] (((List.Perm.swap _ _ _).trans ((List.Perm.cons _ (List.Perm.swap _ _ _)))).trans (List.Perm.swap _ _ _))
        have hh := St.hold4 S3 rfl rfl rfl rfl
        have h1 := St.new4 S3 rfl rfl rfl rfl
        refine .inr ⟨hro0, by rw [hR], p2, c2, some ⟨g2, 0, none⟩, c2', y', hya, by rw [hx'] at hc2; simp at hc2; omega, ?_⟩
        rw [← hR, hap]
        exact ⟨hh, h1⟩
      · refine c_skip ?_
        refine xtn ?_
        refine c_seq ?_
        refine c_region ?_
        refine sq S ?_; clear S; intro a S
        refine sw S ?_; clear S; intro a w S
        refine wl_nil ?_
        refine xtn ?_
        refine c_ret ?_
        have hR2 : R.2 ≠ 0 := of_decide_eq_false h10
        have hap : appS x y' R.2 = { x with broken := true } := by rw [appS, if_neg hR2]
        have hbr : brkF x R.2 = { x with broken := true } := by simp [brkF, hR2]
        have S := S.sub [Wk.box b4 26 [.int .i64 R.2], Wk.box g 134 (cWal b q e x), Wk.row 25 1 q x.said.length e (encL x.said), entI x.said, dkI b m p2 c2 R.1] []
        have hne : ¬ b4 = g := St.apart2 S (Wk.box b4 26 [.int .i64 R.2]) (Wk.box g 134 (cWal b q e x)) b4 rfl
        refine endDef1 (Wk.box g 134 (cWal b q e x)) (Wk.box g 134 (cWal b q e (brkF x R.2))) S rfl ((breaks_d g b4 b q e x R.2 .returning w (S.box g) (BoxF.stable (S.boxF b4) hne)).mono fun _ _ _ h => h) (fun _ h => h) (fun w' hwd => ?_)
        rw [hbr] at hwd
        have S3 := (St.ofWd hwd).sub [Wk.box g 134 (cWal b q e { x with broken := true }), Wk.row 25 1 q x.said.length e (encL x.said), entI x.said, dkI b m p2 c2 R.1] []
        have hh := St.hold4 S3 rfl rfl rfl rfl
        have h1 := St.new4 S3 rfl rfl rfl rfl
        refine .inr ⟨hro0, by rw [hR], p2, c2, q, e, y', by rw [hy'], hsl.2, ?_⟩
        rw [← hR, hap]
        exact ⟨hh, h1⟩
end Go.Proofs.YtdakncgafdnjfaaGreat

/- Package wal: Checkpoint. -/
namespace Go.Proofs.YtdakncgafdnjfaaGreat
open Go Go.Wk
set_option synthInstance.maxSize 100000
set_option synthInstance.maxHeartbeats 400000
set_option maxRecDepth 100000

theorem upT_range (t : Int) : 0 ≤ upT t ∧ upT t ≤ 4294967295 := by
  unfold upT IntKind.wrap
  simp only [IntKind.bits, IntKind.signed, Bool.false_and]
  simp; omega
/-- why bytes are not taken down as a checkpoint. -/
def roomC (x : WS) (bs : List UInt8) : Int := if refF x bs = 0 then (if x.n < secN bs.length ∨ upT x.turn = 0 then 6 else 0) else refF x bs
/-- a log behind a checkpoint. -/
def chkS (x : WS) (y : LBy) (r : Int) : WS := if r = 0 then { x with turn := upT x.turn, said := [y], fin := secN y.bs.length } else { x with broken := true }
theorem chk_c (g b m : Nat) (p : Option Addr) (c : Nat) (s : DS) (q : Option Addr) (e : Nat) (x : WS) (y : LBy) (w0 : World) (hn : x.n ≤ 1000) (ht : 0 ≤ x.turn ∧ x.turn ≤ 4294967295) (hyl : y.bs.length ≤ 10000000) (hl : s.loose.length ≤ 980000)
    (hd : (both (dkI b m p c s) (walI g b q e x)).holds w0) (f0 : Stable (both (dkI b m p c s) (walI g b q e x)).foot w0 (GlF y.p y.bs)) :
    Ret Tryz.prog 19 [.pointer (some ⟨g, 0, none⟩), .slice y.p y.bs.length y.c] w0 (both (dkI b m p c s) (walI g b q e x)).foot fun v w' =>
      (roomC x y.bs ≠ 0 ∧ v = .int .i64 (roomC x y.bs) ∧ (both (dkI b m p c s) (walI g b q e x)).holds w') ∨
      (roomC x y.bs = 0 ∧ v = .int .i64 (begF x.n (upT x.turn) y.bs s).2 ∧ ∃ p' c' q' e', ∃ y' : LBy, y'.bs = y.bs ∧ ((begF x.n (upT x.turn) y.bs s).2 ≠ 0 → q' = q ∧ e' = e) ∧ ((begF x.n (upT x.turn) y.bs s).2 = 0 → 1 ≤ e') ∧
        (both (dkI b m p' c' (begF x.n (upT x.turn) y.bs s).1) (walI g b q' e' (chkS x y' (begF x.n (upT x.turn) y.bs s).2))).holds w' ∧
        ∀ k, (both (dkI b m p' c' (begF x.n (upT x.turn) y.bs s).1) (walI g b q' e' (chkS x y' (begF x.n (upT x.turn) y.bs s).2))).foot k → (both (dkI b m p c s) (walI g b q e x)).foot k ∨ w0.heap.size ≤ k) := by
  have hut := upT_range x.turn
  refine enterD Tryz.func19 rfl rfl (Wd.it2Lent (x := dkI b m p c s) (y := walI g b q e x) (fs := [GlF y.p y.bs]) hd rfl rfl (by intro Φ hΦ; obtain rfl := List.mem_singleton.1 hΦ; exact f0)) (fun a S => ?_)
  simp only [Tryz.ntmps19, List.length_cons, List.length_nil, Nat.reduceAdd, Nat.reduceSub, List.replicate_succ, List.replicate_zero, List.cons_append, List.nil_append] at S
  replace S := S.front (walI g b q e x)
  replace S := St.open3 S
  refine c_seq ?_
  refine c_region ?_
  refine sa S ?_; clear S; intro b4 a w S
  refine wl_nil ?_
  refine xtn ?_
  iterate 2 (refine c_seq ?_)
  refine c_region ?_
  iterate 2 (refine sq S ?_; clear S; intro a S)
  refine sr S (refuses_c g b q e x y _ (BoxF.stable (S.boxF g) (fun h => h))) ?_; clear S; rintro _ a w rfl S
  refine sq S ?_; clear S; intro a S
  refine wl_nil ?_
  refine xtn ?_
  refine c_seq ?_
  refine c_region ?_
  iterate 2 (refine sq S ?_; clear S; intro a S)
  refine wl_nil ?_
  refine xtn ?_
  refine c_cond S (fun h2 => ?_) (fun h2 => ?_)
  · refine c_seq ?_
    refine c_region ?_
    refine sq S ?_; clear S; intro a S
    refine sw S ?_; clear S; intro a w S
    refine wl_nil ?_
    refine xtn ?_
    refine c_ret ?_
    refine xtr ?_
    have he : refF x y.bs ≠ 0 := by simpa using h2
    have hR : roomC x y.bs = refF x y.bs := by rw [roomC, if_neg he]
    have hh := St.hold4 (S.sub [Wk.box g 134 (cWal b q e x), Wk.row 25 1 q x.said.length e (encL x.said), entI x.said, dkI b m p c s] []) rfl rfl rfl rfl
    refine endD1 S (.inl ?_)
    rw [hR]
    exact ⟨he, rfl, hh⟩
  · refine c_skip ?_
    refine xtn ?_
    refine c_seq ?_
    have he : refF x y.bs = 0 := by simpa using h2
    obtain ⟨hy4, hbk⟩ := refF_zero he
    refine c_region ?_
    iterate 2 (refine sq S ?_; clear S; intro a S)
    refine sr S (sectors_c (y.bs.length : Int) _) ?_; clear S; rintro _ a w rfl S
    rw [secF_nat _ hy4] at S
    refine sq S ?_; clear S; intro a S
    refine wl_nil ?_
    refine xtn ?_
    iterate 2 (refine c_seq ?_)
    refine c_region ?_
    iterate 8 (refine sq S ?_; clear S; intro a S)
    iterate 7 (refine gQ S ?_; clear S; intro a S)
    refine sq S ?_; clear S; intro a S
    refine wl_nil ?_
    refine xtn ?_
    refine c_cond S (fun h5 => ?_) (fun h5 => ?_)
    · refine c_seq ?_
      refine c_region ?_
      refine sw S ?_; clear S; intro a w S
      refine wl_nil ?_
      refine xtn ?_
      refine c_ret ?_
      refine xtr ?_
      have hro : x.n < secN y.bs.length ∨ upT x.turn = 0 := by
        rw [show IntKind.u32.wrap (x.turn + 1) = upT x.turn from rfl] at h5
        simp at h5; omega
      have hR : roomC x y.bs = 6 := by rw [roomC, if_pos he, if_pos hro]
      have hh := St.hold4 (S.sub [Wk.box g 134 (cWal b q e x), Wk.row 25 1 q x.said.length e (encL x.said), entI x.said, dkI b m p c s] []) rfl rfl rfl rfl
      refine endD1 S (.inl ?_)
      rw [hR]
      exact ⟨by decide, rfl, hh⟩
    · refine c_skip ?_
      refine xtn ?_
      refine c_seq ?_
      have hro : ¬ (x.n < secN y.bs.length ∨ upT x.turn = 0) := by
        rw [show IntKind.u32.wrap (x.turn + 1) = upT x.turn from rfl] at h5
        simp at h5; omega
      refine c_region ?_
      refine sq S ?_; clear S; intro a S
      refine sdefc S ?_; clear S; intro a S
      refine wl_nil ?_
      refine xtn ?_
      refine c_seq ?_
      refine c_region ?_
      refine sq S ?_; clear S; intro a S
      replace S := S.addNil 5 1
      refine sap S (by simp only [maxLen]; omega) (by omega) ?_; clear S; rintro p8 c8 a w - S
      rw [show ([] : List Value) ++ encL y.bs = encL y.bs from rfl, Nat.zero_add] at S
      have hc8 := own_le (S.row p8 y.bs.length)
      replace S := St.rowEnt S ⟨p8, c8, y.bs⟩ (S.row p8 y.bs.length)
      obtain ⟨y', hy'⟩ : ∃ y' : LBy, y' = ⟨p8, c8, y.bs⟩ := ⟨_, rfl⟩
      rw [← hy'] at S
      obtain ⟨R, hR⟩ : ∃ R, R = begF x.n (upT x.turn) y.bs s := ⟨_, rfl⟩
      have hro0 : roomC x y.bs = 0 := by rw [roomC, if_pos he, if_neg hro]
      refine sq S ?_; clear S; intro a S
      refine wl_nil ?_
      refine xtn ?_
      refine c_seq ?_
      refine c_region ?_
      iterate 4 (refine sq S ?_; clear S; intro a S)
      refine sr S (next_c b x.n x.turn _) ?_; clear S; rintro _ a w rfl S
      refine sa S ?_; clear S; intro b8 a w S
      refine sw S ?_; clear S; intro a w S
      refine wl_nil ?_
      refine xtn ?_
      iterate 2 (refine c_seq ?_)
      refine c_region ?_
      iterate 2 (refine sq S ?_; clear S; intro a S)
      have hgl : Stable (dkI b m p c s).foot w (GlF y'.p y'.bs) := St.entGl S (fun k hk hk2 => St.apart2 S (entI [y']) (dkI b m p c s) k hk hk2) (by simp)
      rw [hy'] at hgl
      refine sit (dkI b m p c s) S (begin_c b m x.n p c s (upT x.turn) y.bs p8 c8 _ hn hut hy4 hc8 (by omega) (S.it (dkI b m p c s)) hgl) rfl ?_; clear S hgl; rintro _ a w ⟨rfl, p2, c2, hh, hn2⟩ hS
      have S := hS (dkI b m p2 c2 (begF x.n (upT x.turn) y.bs s).1) hh hn2
      clear hS
      rw [← hR] at S
      refine sw S ?_; clear S; intro a w S
      refine wl_nil ?_
      refine xtn ?_
      refine c_seq ?_
      refine c_region ?_
      iterate 2 (refine sq S ?_; clear S; intro a S)
      refine wl_nil ?_
      refine xtn ?_
      refine c_cond S (fun h11 => ?_) (fun h11 => ?_)
      · refine c_region ?_
        iterate 5 (refine sq S ?_; clear S; intro a S)
        refine sn S ?_; clear S; intro b52 a w S
        iterate 3 (refine sq S ?_; clear S; intro a S)
        refine sw S ?_; clear S; intro a w S
        iterate 2 (refine sq S ?_; clear S; intro a S)
        refine sw S ?_; clear S; intro a w S
        iterate 2 (refine sq S ?_; clear S; intro a S)
        refine sw S ?_; clear S; intro a w S
        refine wl_nil ?_
        refine xtn ?_
        refine c_seq ?_
        refine c_region ?_
        refine sq S ?_; clear S; intro a S
        refine sw S ?_; clear S; intro a w S
        refine wl_nil ?_
        refine xtn ?_
        refine c_ret ?_
        have hR2 : R.2 = 0 := of_decide_eq_true h11
        obtain ⟨x', hx'⟩ : ∃ x' : WS, x' = { x with turn := upT x.turn, said := [y'], fin := secN y.bs.length } := ⟨_, rfl⟩
        have hya : y'.bs = y.bs := by rw [hy']
        have hap : chkS x y' R.2 = x' := by rw [chkS, if_pos hR2, hx', hya]
        have hbr : brkF x' R.2 = x' := by rw [brkF, hR2]; simp
        replace S := S.boxRow b52 1 1 rfl (by decide)
        replace S := S.sub [Wk.row 25 1 (some ⟨b52, 0, none⟩) 1 1 [.slice p8 y.bs.length c8], entI [y'], Wk.box b4 26 [.int .i64 R.2], Wk.box g 134 [.pointer (some ⟨b, 0, none⟩), .int .i64 (x.n : Int), .int .u32 (upT x.turn), .slice (some ⟨b52, 0, none⟩) 1 1, .int .i64 (secN y.bs.length : Int), .bool x.broken], dkI b m p2 c2 R.1] []
        replace S := St.items S (bs' := [Wk.row 25 1 (some ⟨b52, 0, none⟩) x'.said.length 1 (encL x'.said), entI x'.said, Wk.box b4 26 [.int .i64 R.2], Wk.box g 134 (cWal b (some ⟨b52, 0, none⟩) 1 x'), dkI b m p2 c2 R.1]) (by rw [hx', hy']; rfl)
        have hne : ¬ b4 = g := St.apart2 S (Wk.box b4 26 [.int .i64 R.2]) (Wk.box g 134 (cWal b (some ⟨b52, 0, none⟩) 1 x')) b4 rfl
        refine endDef1 (Wk.box g 134 (cWal b (some ⟨b52, 0, none⟩) 1 x')) (Wk.box g 134 (cWal b (some ⟨b52, 0, none⟩) 1 (brkF x' R.2))) S rfl ((breaks_d g b4 b (some ⟨b52, 0, none⟩) 1 x' R.2 .returning w (S.box g) (BoxF.stable (S.boxF b4) hne)).mono fun _ _ _ h => h) (fun _ h => h) (fun w' hwd => ?_)
        rw [hbr] at hwd
        have S2 := (St.ofWd hwd).sub [Wk.row 25 1 (some ⟨b52, 0, none⟩) x'.said.length 1 (encL x'.said), entI x'.said, Wk.box g 134 (cWal b (some ⟨b52, 0, none⟩) 1 x'), dkI b m p2 c2 R.1] []
        have S3 := S2.perm [Wk.box g 134 (cWal b (some ⟨b52, 0, none⟩) 1 x'), Wk.row 25 1 (some ⟨b52, 0, none⟩) x'.said.length 1 (encL x'.said), entI x'.said, dkI b m p2 c2 R.1] ((List.Perm.swap _ _ _).trans (List.Perm.cons _ (List.Perm.swap _ _ _)))
        have hh := St.hold4 S3 rfl rfl rfl rfl
        have h1 := St.new4 S3 rfl rfl rfl rfl
        refine .inr ⟨hro0, by rw [hR], p2, c2, some ⟨b52, 0, none⟩, 1, y', hya, fun h => absurd (hR ▸ hR2) h, fun _ => Nat.le_refl _, ?_⟩
        rw [← hR, hap]
        exact ⟨hh, h1⟩
      · refine c_skip ?_
        refine xtn ?_
        refine c_seq ?_
        refine c_region ?_
        refine sq S ?_; clear S; intro a S
        refine sw S ?_; clear S; intro a w S
        refine wl_nil ?_
        refine xtn ?_
        refine c_ret ?_
        have hR2 : R.2 ≠ 0 := of_decide_eq_false h11
        have hap : chkS x y' R.2 = { x with broken := true } := by rw [chkS, if_neg hR2]
        have hbr : brkF x R.2 = { x with broken := true } := by simp [brkF, hR2]
        have S := S.sub [Wk.box b4 26 [.int .i64 R.2], Wk.box g 134 (cWal b q e x), Wk.row 25 1 q x.said.length e (encL x.said), entI x.said, dkI b m p2 c2 R.1] []
        have hne : ¬ b4 = g := St.apart2 S (Wk.box b4 26 [.int .i64 R.2]) (Wk.box g 134 (cWal b q e x)) b4 rfl
        refine endDef1 (Wk.box g 134 (cWal b q e x)) (Wk.box g 134 (cWal b q e (brkF x R.2))) S rfl ((breaks_d g b4 b q e x R.2 .returning w (S.box g) (BoxF.stable (S.boxF b4) hne)).mono fun _ _ _ h => h) (fun _ h => h) (fun w' hwd => ?_)
        rw [hbr] at hwd
        have S3 := (St.ofWd hwd).sub [Wk.box g 134 (cWal b q e { x with broken := true }), Wk.row 25 1 q x.said.length e (encL x.said), entI x.said, dkI b m p2 c2 R.1] []
        have hh := St.hold4 S3 rfl rfl rfl rfl
        have h1 := St.new4 S3 rfl rfl rfl rfl
        refine .inr ⟨hro0, by rw [hR], p2, c2, q, e, y', by rw [hy'], fun _ => ⟨rfl, rfl⟩, fun h => absurd h (by rw [← hR]; exact hR2), ?_⟩
        rw [← hR, hap]
        exact ⟨hh, h1⟩
end Go.Proofs.YtdakncgafdnjfaaGreat

/- Disks in plain words: what they hold, behind writes, a sync, a crash. -/
namespace Go.Proofs.YtdakncgafdnjfaaGreat
open Go Go.Wk
set_option maxRecDepth 100000

theorem getB_put (k u : Int) (v : Blk) : ∀ f, getB k (putB u v f) = if k = u then some v else getB k f
  | [] => by simp [putB, getB]
  | (w, x) :: f => by
    rw [putB]
    split
    · rename_i h
      subst h
      rw [getB, getB]
      split <;> rfl
    · rename_i h
      rw [getB, getB, getB_put k u v f]
      by_cases hw : k = w
      · subst hw; rw [if_pos rfl, if_pos rfl, if_neg (fun e => h e.symm)]
      · rw [if_neg hw, if_neg hw]
theorem findB_snoc (k : Int) (x : LWr) : ∀ l, findB k (l ++ [x]) = (if x.at_ = k then some x.b else none).or (findB k l)
  | [] => by simp [findB]
  | y :: l => by rw [List.cons_append, findB, findB_snoc k x l, findB, Option.or_assoc]
theorem settle_all (j : Int) (l : List LWr) (f : List (Int × Blk)) : ∀ k, k ≤ l.length → getB j (settleK (fun _ => true) l f k) = (findB j (l.take k)).or (getB j f)
  | 0, _ => by rw [settleK, List.take_zero, findB, Option.none_or]
  | k + 1, h => by
    rw [settleK, if_pos rfl, getB_put, take_snocW (by omega), findB_snoc, settle_all j l f k (by omega)]
    by_cases e : j = (nthG l k).at_
    · rw [if_pos e, if_pos e.symm]; rfl
    · rw [if_neg e, if_neg (fun h => e h.symm)]; rfl
theorem settle_any (j : Int) (st : Nat → Bool) (l : List LWr) (f : List (Int × Blk)) : ∀ k, k ≤ l.length → getB j (settleK st l f k) = getB j f ∨ ∃ x ∈ l, x.at_ = j ∧ getB j (settleK st l f k) = some x.b
  | 0, _ => .inl rfl
  | k + 1, h => by
    rw [settleK]
    split
    · rw [getB_put]
      by_cases e : j = (nthG l k).at_
      · rw [if_pos e]; exact .inr ⟨nthG l k, nthG_mem (by omega), e.symm, rfl⟩
      · rw [if_neg e]; exact settle_any j st l f k (by omega)
    · exact settle_any j st l f k (by omega)
theorem holds_firm {s : DS} (h : s.loose = []) (k : Int) : holdsF s k = (getB k s.firm).getD zB := by rw [holdsF, h, findB, Option.none_or]
/-- a disk with power, where nothing is to fail. -/
structure Up (s : DS) : Prop where
  on : s.out = false
  fit : s.fails.on = false
/-- does the power go now? -/
def hit (s : DS) : Bool := (metF s.arms).1
theorem met_off {c : Cnt} (h : c.on = false) : metF c = (false, c) := by rw [metF, if_neg (by rw [h]; exact Bool.false_ne_true)]
theorem hit_off {s : DS} (h : s.arms.on = false) : hit s = false := by rw [hit, met_off h]
theorem ask_up {s : DS} (h : Up s) {k : Int} (hk : 0 ≤ k ∧ k < s.size) (b : Bool) : askE s k b = if b && hit s then 9 else 0 := by
  rw [askE, if_neg (by rw [h.on]; exact Bool.false_ne_true), if_neg (by omega), met_off h.fit, if_neg (by exact Bool.false_ne_true)]; rfl
theorem askD_up {s : DS} (h : Up s) {k : Int} (hk : 0 ≤ k ∧ k < s.size) : askD s k true = if hit s then { s with arms := (metF s.arms).2, out := true } else { s with arms := (metF s.arms).2 } := by
  rw [askD, if_neg (by rw [h.on]; exact Bool.false_ne_true), if_neg (by omega), met_off h.fit, if_neg (by exact Bool.false_ne_true), if_pos rfl]
  rfl
theorem asked_up {s : DS} (h : Up s) {k : Int} (hk : 0 ≤ k ∧ k < s.size) (g : DS → DS) : (hit s = false ∧ askE s k true = 0 ∧ askedD g s k = opD (g { s with arms := (metF s.arms).2 })) ∨ (hit s = true ∧ askE s k true = 9 ∧ askedD g s k = { s with arms := (metF s.arms).2, out := true }) := by
  have h1 := ask_up h hk true
  have h2 := askD_up h hk
  cases hh : hit s with
  | false =>
    rw [hh] at h1 h2
    replace h1 : askE s k true = 0 := h1
    refine .inl ⟨rfl, h1, ?_⟩
    rw [askedD, if_pos h1, h2]; rfl
  | true =>
    rw [hh] at h1 h2
    replace h1 : askE s k true = 9 := h1
    refine .inr ⟨rfl, h1, ?_⟩
    rw [askedD, if_neg (by rw [h1]; decide), h2]; rfl
theorem met_stays {c : Cnt} (h : c.on = false) : (metF c).2.on = false := by rw [met_off h]; exact h
/-- what a disk holds, and how large it is. -/
structure Alike (s s' : DS) : Prop where
  size : s'.size = s.size
  fails : s'.fails = s.fails
  firm : s'.firm = s.firm
/-- writes, one behind the other. -/
def wrs : Nat → List Blk → List LWr
  | _, [] => []
  | k, x :: xs => ⟨(k : Int), x⟩ :: wrs (k + 1) xs
theorem wrs_mem : ∀ {xs : List Blk} {k : Nat} {y : LWr}, y ∈ wrs k xs → ∃ i, y.at_ = ((k + i : Nat) : Int) ∧ xs[i]? = some y.b
  | [], _, _, h => by cases h
  | x :: xs, k, y, h => by
    rw [wrs] at h
    rcases List.mem_cons.1 h with rfl | h
    · exact ⟨0, rfl, rfl⟩
    · obtain ⟨i, h1, h2⟩ := wrs_mem h
      exact ⟨i + 1, by rw [h1]; congr 1; omega, by simpa using h2⟩
theorem wrs_find : ∀ (xs : List Blk) (k : Nat) (j : Int), findB j (wrs k xs) = if (k : Int) ≤ j ∧ j < ((k + xs.length : Nat) : Int) then xs[(j - k).toNat]? else none
  | [], k, j => by rw [wrs, findB, if_neg (by simp only [List.length_nil]; omega)]
  | x :: xs, k, j => by
    rw [wrs, findB, wrs_find xs (k + 1) j]
    by_cases h1 : j = (k : Int)
    · subst h1
      rw [if_neg (by omega), if_pos rfl, if_pos (by simp only [List.length_cons]; omega), Int.sub_self]; rfl
    · rw [if_neg (show ¬ ((⟨(k : Int), x⟩ : LWr).at_ = j) from fun e => h1 e.symm), Option.or_none]
      by_cases h2 : (k : Int) ≤ j ∧ j < ((k + (x :: xs).length : Nat) : Int)
      · rw [if_pos h2, if_pos (by simp only [List.length_cons] at h2; omega)]
        have : (j - (k : Int)).toNat = (j - ((k + 1 : Nat) : Int)).toNat + 1 := by omega
        rw [this, List.getElem?_cons_succ]
      · rw [if_neg h2, if_neg (by simp only [List.length_cons] at h2; omega)]
/-- blocks are laid: all of them, or the power goes behind some. -/
theorem lay_w : ∀ (xs : List Blk) (s : DS) (k : Nat), Up s → ((k + xs.length : Nat) : Int) ≤ s.size →
    Alike s (layW s k xs).1 ∧ (((layW s k xs).2 = 0 ∧ (layW s k xs).1.out = false ∧ (layW s k xs).1.loose = s.loose ++ wrs k xs ∧ (s.arms.on = false → (layW s k xs).1.arms.on = false)) ∨
      (s.arms.on = true ∧ (layW s k xs).2 = 9 ∧ (layW s k xs).1.out = true ∧ ∃ i, (layW s k xs).1.loose = s.loose ++ wrs k (xs.take i)))
  | [], s, k, hu, _ => by
    rw [layW]
    exact ⟨⟨rfl, rfl, rfl⟩, .inl ⟨rfl, hu.on, by rw [wrs, List.append_nil], id⟩⟩
  | x :: xs, s, k, hu, hk => by
    simp only [List.length_cons] at hk
    rcases asked_up hu (k := (k : Int)) (by omega) (fun s => writeD s k x) with ⟨h1, h2, h3⟩ | ⟨h1, h2, h3⟩
    · rw [layW, if_pos h2, show ((k : Int) + 1) = ((k + 1 : Nat) : Int) from rfl]
      have e : wrD s k x = opD (writeD { s with arms := (metF s.arms).2 } k x) := h3
      have hu1 : Up (wrD s k x) := by rw [e]; exact ⟨hu.on, hu.fit⟩
      have hs1 : (wrD s k x).size = s.size := by rw [e]; rfl
      obtain ⟨ha, hc⟩ := lay_w xs (wrD s k x) (k + 1) hu1 (by rw [hs1]; omega)
      refine ⟨⟨ha.size.trans hs1, ha.fails.trans (by rw [e]; rfl), ha.firm.trans (by rw [e]; rfl)⟩, ?_⟩
      have hl : (wrD s k x).loose = s.loose ++ [⟨(k : Int), x⟩] := by rw [e]; rfl
      have harm : s.arms.on = false → (wrD s k x).arms.on = false := fun h => by rw [e]; exact met_stays h
      rcases hc with ⟨c1, c2, c3, c4⟩ | ⟨c0, c1, c2, i, c3⟩
      · exact .inl ⟨c1, c2, by rw [c3, hl, wrs, List.append_assoc]; rfl, fun h => c4 (harm h)⟩
      · refine .inr ⟨?_, c1, c2, i + 1, by rw [c3, hl, List.take_succ_cons, wrs, List.append_assoc]; rfl⟩
        cases hx : s.arms.on with
        | true => rfl
        | false => rw [harm hx] at c0; cases c0
    · rw [layW, if_neg (by rw [h2]; decide)]
      have e : wrD s k x = { s with arms := (metF s.arms).2, out := true } := h3
      refine ⟨by rw [e]; exact ⟨rfl, rfl, rfl⟩, .inr ⟨?_, h2, by rw [e], 0, by rw [e, List.take_zero, wrs, List.append_nil]⟩⟩
      cases hx : s.arms.on with
      | true => rfl
      | false => rw [hit_off hx] at h1; cases h1
/-- behind a sync. -/
theorem sy_up {s : DS} (hu : Up s) (h0 : 0 < s.size) : ((askE s 0 true = 0 ∧ (syD s).out = false ∧ (syD s).loose = [] ∧ (∀ j, holdsF (syD s) j = holdsF s j) ∧ (syD s).size = s.size ∧ (syD s).fails = s.fails ∧ (s.arms.on = false → (syD s).arms.on = false)) ∨
    (s.arms.on = true ∧ askE s 0 true = 9 ∧ (syD s).out = true ∧ (syD s).loose = s.loose ∧ Alike s (syD s))) := by
  rcases asked_up hu (k := 0) (by omega) (settleD fun _ => true) with ⟨h1, h2, h3⟩ | ⟨h1, h2, h3⟩
  · have e : syD s = opD (settleD (fun _ => true) { s with arms := (metF s.arms).2 }) := h3
    refine .inl ⟨h2, by rw [e]; exact hu.on, by rw [e]; rfl, fun j => ?_, by rw [e]; rfl, by rw [e]; rfl, fun h => by rw [e]; exact met_stays h⟩
    rw [holds_firm (by rw [e]; rfl), holdsF, e]
    show (getB j (settleK (fun _ => true) s.loose s.firm s.loose.length)).getD zB = _
    rw [settle_all j s.loose s.firm s.loose.length (Nat.le_refl _), List.take_length]
  · have e : syD s = { s with arms := (metF s.arms).2, out := true } := h3
    refine .inr ⟨?_, h2, by rw [e], by rw [e], by rw [e]; exact ⟨rfl, rfl, rfl⟩⟩
    cases hx : s.arms.on with
    | true => rfl
    | false => rw [hit_off hx] at h1; cases h1
/-- blocks are laid and made firm, or the power goes. -/
theorem lay_f (xs : List Blk) (s : DS) (k : Nat) (hu : Up s) (hl : s.loose = []) (h0 : 0 < s.size) (hk : ((k + xs.length : Nat) : Int) ≤ s.size) :
    ((layF s k xs).2 = 0 ∧ Up (layF s k xs).1 ∧ (layF s k xs).1.loose = [] ∧ (layF s k xs).1.size = s.size ∧ (s.arms.on = false → (layF s k xs).1.arms.on = false) ∧ ∀ j, holdsF (layF s k xs).1 j = (findB j (wrs k xs)).getD (holdsF s j)) ∨
    (s.arms.on = true ∧ (layF s k xs).2 = 9 ∧ (layF s k xs).1.out = true ∧ Alike s (layF s k xs).1 ∧ ∃ i, (layF s k xs).1.loose = wrs k (xs.take i)) := by
  obtain ⟨ha, hc⟩ := lay_w xs s k hu hk
  rw [hl] at hc
  simp only [List.nil_append] at hc
  rcases hc with ⟨c1, c2, c3, c4⟩ | ⟨c0, c1, c2, i, c3⟩
  · have e : layF s k xs = (syD (layW s k xs).1, askE (layW s k xs).1 0 true) := by rw [layF, if_pos c1]
    have hu1 : Up (layW s k xs).1 := ⟨c2, by rw [ha.fails]; exact hu.fit⟩
    rw [e]
    rcases sy_up hu1 (by rw [ha.size]; exact h0) with ⟨d1, d2, d3, d4, d5, d6, d7⟩ | ⟨d0, d1, d2, d3, d4⟩
    · refine .inl ⟨d1, ⟨d2, by rw [d6]; exact hu1.fit⟩, d3, d5.trans ha.size, fun h => d7 (c4 h), fun j => ?_⟩
      show holdsF (syD (layW s k xs).1) j = _
      rw [d4, holdsF, c3, ha.firm, holds_firm hl]
      cases findB j (wrs k xs) <;> rfl
    · refine .inr ⟨?_, d1, d2, ⟨d4.size.trans ha.size, d4.fails.trans ha.fails, d4.firm.trans ha.firm⟩, xs.length, by rw [List.take_length]; exact d3.trans c3⟩
      cases hx : s.arms.on with
      | true => rfl
      | false => rw [c4 hx] at d0; cases d0
  · have e : layF s k xs = layW s k xs := by rw [layF, if_neg (by rw [c1]; decide)]
    rw [e]
    exact .inr ⟨c0, c1, c2, ha, i, c3⟩
/-- behind a crash each sector holds what was firm, or what was written to it. -/
theorem crash_any (l : List Bool) (s : DS) : Up (crashD l s) ∧ (crashD l s).loose = [] ∧ (crashD l s).size = s.size ∧ (crashD l s).arms.on = false ∧ ∀ j, holdsF (crashD l s) j = (getB j s.firm).getD zB ∨ ∃ x ∈ s.loose, x.at_ = j ∧ holdsF (crashD l s) j = x.b := by
  refine ⟨⟨rfl, rfl⟩, rfl, rfl, rfl, fun j => ?_⟩
  rw [holds_firm (s := crashD l s) rfl]
  show (getB j (settleK (keepF l) s.loose s.firm s.loose.length)).getD zB = _ ∨ _
  rcases settle_any j (keepF l) s.loose s.firm s.loose.length (Nat.le_refl _) with h | ⟨x, h1, h2, h3⟩
  · rw [h]; exact .inl rfl
  · exact .inr ⟨x, h1, h2, by show (getB j (settleK (keepF l) s.loose s.firm s.loose.length)).getD zB = _; rw [h3]; rfl⟩
/-- behind a laying that the power cut: what was there, or what was to come. -/
theorem crash_lay (l : List Bool) {s : DS} {xs : List Blk} {k : Nat} (hl : s.loose = []) {r : DS} (ha : Alike s r) {i : Nat} (hr : r.loose = wrs k (xs.take i)) (j : Int) :
    holdsF (crashD l r) j = holdsF s j ∨ ∃ m, j = ((k + m : Nat) : Int) ∧ xs[m]? = some (holdsF (crashD l r) j) := by
  obtain ⟨_, _, _, _, h1⟩ := crash_any l r
  rcases h1 j with e | ⟨x, hx, h2, h3⟩
  · rw [e, ha.firm, holds_firm hl]; exact .inl rfl
  · rw [hr] at hx
    obtain ⟨m, e1, e2⟩ := wrs_mem hx
    rw [List.getElem?_take] at e2
    split at e2
    · exact .inr ⟨m, h2.symm.trans e1, by rw [h3]; exact e2⟩
    · cases e2
end Go.Proofs.YtdakncgafdnjfaaGreat

/- Package wal in plain words: logs on disks, taken down, cut, found. -/
namespace Go.Proofs.YtdakncgafdnjfaaGreat
open Go Go.Wk
set_option maxRecDepth 100000

/-- a field of blocks. -/
def fieldOf (s : DS) (fr n : Nat) : List Blk := (List.range n).map fun i => holdsF s ((fr + i : Nat) : Int)
theorem fieldOf_len (s : DS) (fr n : Nat) : (fieldOf s fr n).length = n := by simp [fieldOf]
theorem fieldOf_get (s : DS) (fr n i : Nat) (h : i < n) : (fieldOf s fr n)[i]? = some (holdsF s ((fr + i : Nat) : Int)) := by
  rw [fieldOf, List.getElem?_map, List.getElem?_range h]; rfl
theorem fieldOf_eq {s s' : DS} {fr n : Nat} (h : ∀ i, i < n → holdsF s' ((fr + i : Nat) : Int) = holdsF s ((fr + i : Nat) : Int)) : fieldOf s' fr n = fieldOf s fr n :=
  List.map_congr_left fun i hi => h i (List.mem_range.1 hi)
/-- the other title tells no later book. -/
def Below (s : DS) (t : Int) (i : Nat) (y : Blk) : Prop := (mayF s (tellN y) && decide (tellT y % 2 = (i : Int)) && decide (y.l = (titleF (tellT y) (tellN y)).l)) = true → tellT y < t
/-- a log's disk, but for what lies behind the log's end. -/
structure LogOn (s : DS) (n : Nat) (t : Int) (said : List (List UInt8)) (tail : List Blk) : Prop where
  up : Up s
  loose : s.loose = []
  hn : 4 ≤ n ∧ n ≤ 1000
  size : ((2 * n + 2 : Nat) : Int) ≤ s.size
  ht : 0 ≤ t ∧ t ≤ 4294967295
  title : holdsF s ((t % 2).toNat : Int) = titleF t n
  other : Below s t (1 - (t % 2).toNat) (holdsF s ((1 - (t % 2).toNat : Nat) : Int))
  some_ : said ≠ []
  short : ∀ b ∈ said, b.length ≤ 40000
  cur : fieldOf s (fromN n t) n = laidF t said 0 ++ tail
  oth : ∀ i, i < n → Fresh (t + 1) (holdsF s ((fromN n (t + 1) + i : Nat) : Int))
def Live (s : DS) (n : Nat) (t : Int) (said : List (List UInt8)) : Prop := ∃ tail, LogOn s n t said tail ∧ ∀ x ∈ tail, Fresh t x
def Able (s : DS) (n : Nat) (t : Int) (said : List (List UInt8)) : Prop := ∃ tail, LogOn s n t said tail ∧ NoEntry t (said.length : Nat) tail ∧ ∀ x ∈ tail, Fresh (t + 1) x
def Clean (s : DS) (n : Nat) (t : Int) (said : List (List UInt8)) : Prop := ∃ k, LogOn s n t said (List.replicate k zB)
def endF (t : Int) (said : List (List UInt8)) : Nat := (laidF t said 0).length
theorem LogOn.len {s : DS} {n : Nat} {t : Int} {said : List (List UInt8)} {tail : List Blk} (h : LogOn s n t said tail) : endF t said + tail.length = n := by
  have := congrArg List.length h.cur
  rw [fieldOf_len, List.length_append] at this
  exact this.symm
theorem laid_len (t : Int) : ∀ (said : List (List UInt8)) (j : Nat), said.length ≤ (laidF t said j).length
  | [], _ => Nat.le_refl _
  | b :: l, j => by
    have := laid_len t l (j + 1)
    have := secN_pos b.length
    rw [laidF, List.length_append, leavesF_len, List.length_cons]; omega
theorem LogOn.few {s : DS} {n : Nat} {t : Int} {said : List (List UInt8)} {tail : List Blk} (h : LogOn s n t said tail) : said.length ≤ n ∧ 0 < said.length :=
  ⟨by have := laid_len t said 0; have := h.len; unfold endF at this; omega, List.length_pos_iff.2 h.some_⟩
theorem Live.able {s : DS} {n : Nat} {t : Int} {said : List (List UInt8)} (h : Live s n t said) : Able s n t said := by
  obtain ⟨tail, h, hf⟩ := h
  have h1 := h.few
  have h2 := h.hn
  exact ⟨tail, h, noEntry_fresh h.ht.2 (by omega) hf, fun x hx => (hf x hx).mono (by omega)⟩
theorem from_bound {n : Nat} (t : Int) (hn : n ≤ 1000) : 2 ≤ fromN n t ∧ fromN n t ≤ 2 + n := by
  unfold fromN
  rcases (show (t % 2).toNat = 0 ∨ (t % 2).toNat = 1 by omega) with h | h <;> rw [h] <;> omega
/-- two fields lie apart. -/
theorem from_apart {n : Nat} (t : Int) {i j : Nat} (hi : i < n) (hj : j < n) : fromN n t + i ≠ fromN n (t + 1) + j := by
  unfold fromN
  rcases (show t % 2 = 0 ∨ t % 2 = 1 by omega) with h | h
  · rw [show (t + 1) % 2 = 1 from by omega, h]; simp; omega
  · rw [show (t + 1) % 2 = 0 from by omega, h]; simp; omega
theorem over_in {xs : List Blk} {k i : Nat} (hi : i < xs.length) (u : Blk) : (findB ((k + i : Nat) : Int) (wrs k xs)).getD u = (xs[i]?).getD u := by
  rw [wrs_find, if_pos (by omega)]
  congr 2; omega
theorem over_out {xs : List Blk} {k : Nat} {j : Int} (h : j < (k : Int) ∨ ((k + xs.length : Nat) : Int) ≤ j) (u : Blk) : (findB j (wrs k xs)).getD u = u := by
  rw [wrs_find, if_neg (by omega)]; rfl
/-- a field with something laid into it. -/
theorem field_over {s s' : DS} {fr n k : Nat} {xs : List Blk} (hk : k + xs.length ≤ n) (h : ∀ j, holdsF s' j = (findB j (wrs (fr + k) xs)).getD (holdsF s j)) : fieldOf s' fr n = (fieldOf s fr n).take k ++ xs ++ (fieldOf s fr n).drop (k + xs.length) := by
  have hl : ((fieldOf s fr n).take k).length = k := by rw [List.length_take, fieldOf_len]; omega
  apply List.ext_getElem?
  intro i
  by_cases hi : i < n
  · rw [fieldOf_get s' fr n i hi, h]
    by_cases h1 : i < k
    · rw [over_out (.inl (by omega)), List.append_assoc, List.getElem?_append_left (by omega), List.getElem?_take, if_pos h1, fieldOf_get s fr n i hi]
    · by_cases h2 : i < k + xs.length
      · rw [show (fr + i : Nat) = fr + k + (i - k) from by omega, over_in (by omega), List.append_assoc, List.getElem?_append_right (by omega), hl, List.getElem?_append_left (by omega), List.getElem?_eq_getElem (by omega)]; rfl
      · rw [over_out (.inr (by omega)), List.getElem?_append_right (by rw [List.length_append, hl]; omega), List.length_append, hl, List.getElem?_drop, show k + xs.length + (i - (k + xs.length)) = i from by omega, fieldOf_get s fr n i hi]
  · rw [List.getElem?_eq_none (by rw [fieldOf_len]; omega), List.getElem?_eq_none (by rw [List.length_append, List.length_append, hl, List.length_drop, fieldOf_len]; omega)]
/-- each is what it was, or what was to come. -/
def Mix (tail xs tail' : List Blk) : Prop := tail'.length = tail.length ∧ ∀ (i : Nat) (x : Blk), tail'[i]? = some x → tail[i]? = some x ∨ xs[i]? = some x
theorem mix_entry {t j : Int} {bs : List UInt8} {tail tail' : List Blk} (ht : t ≤ 4294967295) (hj : 1 ≤ j ∧ j ≤ 4294967295) (hb : bs.length ≤ 40000) (hf : ∀ x ∈ tail, Fresh t x) (hm : Mix tail (leavesF t j bs) tail') (hn : (leavesF t j bs).length ≤ tail.length) :
    (∃ rest, tail' = leavesF t j bs ++ rest ∧ ∀ x ∈ rest, Fresh t x) ∨ NoEntry t j tail' := by
  by_cases hp : leavesF t j bs <+: tail'
  · obtain ⟨rest, hr⟩ := hp
    refine .inl ⟨rest, hr.symm, fun x hx => ?_⟩
    obtain ⟨i, hi⟩ := List.getElem?_of_mem hx
    have h1 : tail'[(leavesF t j bs).length + i]? = some x := by rw [← hr, List.getElem?_append_right (by omega), show (leavesF t j bs).length + i - (leavesF t j bs).length = i from by omega]; exact hi
    rcases hm.2 _ _ h1 with h2 | h2
    · exact hf x (List.mem_of_getElem? h2)
    · rw [List.getElem?_eq_none (by omega)] at h2; cases h2
  · refine .inr fun bs' hb' ⟨rest, hr⟩ => hp ?_
    have key : ∀ i, i < secN bs'.length → (leavesF t j bs)[i]? = some (leafF t j bs' i) := fun i hi => by
      have h1 : tail'[i]? = some (leafF t j bs' i) := by rw [← hr, List.getElem?_append_left (by rw [leavesF_len]; exact hi)]; exact leaves_get t j bs' i hi
      rcases hm.2 _ _ h1 with h2 | h2
      · exact absurd rfl (hf _ (List.mem_of_getElem? h2) t j bs' i (Int.le_refl _) ht hj.1 hj.2)
      · exact h2
    have h0 := key 0 (secN_pos _)
    rw [leaves_get t j bs 0 (secN_pos _)] at h0
    have hlen : (bs.length : Int) = (bs'.length : Int) := wbe2_inj (by omega) (by omega) (leaf_parts (Option.some.inj h0)).2.2.1
    have hll : bs.length = bs'.length := by omega
    have he : leavesF t j bs = leavesF t j bs' := by
      apply List.ext_getElem?
      intro i
      by_cases hi : i < secN bs'.length
      · rw [key i hi, leaves_get t j bs' i hi]
      · rw [List.getElem?_eq_none (by rw [leavesF_len, hll]; omega), List.getElem?_eq_none (by rw [leavesF_len]; omega)]
    rw [he]; exact ⟨rest, hr⟩
/-! counting -/
/-! a field is read -/
end Go.Proofs.YtdakncgafdnjfaaGreat
