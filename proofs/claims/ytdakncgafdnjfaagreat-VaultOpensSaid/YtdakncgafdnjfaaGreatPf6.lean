/- 6: a part of this claim's texts, joined: VaultF VaultQ VaultR W9 WalA WalB WalC WalD WalE WalF WalG WalH WalI WalJ WalK PlainWal WalLaw WalLawB WalLawC WalLawD WalM WalN. -/
import Derived.Test.YtdakncgafdnjfaaGreatPf5
import Derived.ChangeKeysEq
import Derived.Laws.StructEq
namespace Go.Proofs.YtdakncgafdnjfaaGreat
open Go Go.Wk
set_option synthInstance.maxSize 100000
set_option synthInstance.maxHeartbeats 400000
set_option maxRecDepth 100000
def alV (b : Nat) : Value := .func (.func 190) #[] ⟨[.pointer (some ⟨b, 0, none⟩)]⟩
theorem all_vf (p : Option Addr) (n c : Nat) (w0 : World) : Ret Tryz.prog 96 [.slice p n c] w0 (fun _ => False) fun v w' => ∃ b, v = alV b ∧ w0.heap.size ≤ b ∧ BoxF b 142 [.slice p n c] w' := by
  refine enter Tryz.func96 rfl rfl (Wd.start w0) (fun a S => ?_)
  simp only [Tryz.ntmps96, List.length_cons, List.length_nil, Nat.reduceAdd, Nat.reduceSub, List.replicate_succ, List.replicate_zero, List.cons_append, List.nil_append] at S
  refine c_seq ?_; refine c_region ?_
  refine sa S ?_; clear S; intro b1 a w S
  refine sq S ?_; clear S; intro a S; refine wl_nil ?_; refine xtn ?_; refine c_seq ?_; refine c_region ?_; (iterate 2 (refine sq S ?_; clear S; intro a S)); refine wl_nil ?_; refine xtn ?_; refine c_ret ?_
  have h1 := S.boxF b1
  have n1 := S.boxNew b1
  refine end1 S (fun _ => ?_)
  exact ⟨b1, rfl, n1.elim (fun h => h.elim) id, h1⟩
theorem all_vit (b : Nat) (xs : List LRow) (p : Option Addr) (c : Nat) (hl : xs.length ≤ 1000000) (w0 : World) (M : Nat → Prop) (hM : ∀ k, M k → k < w0.heap.size) (f1 : Stable M w0 (BoxF b 142 [.slice p xs.length c])) (f2 : Stable M w0 (GlF p xs)) :
    IterRet Tryz.prog 190 [.pointer (some ⟨b, 0, none⟩)] w0 M (fun (y : LRow) vs _ _ => vs = [vRow y]) xs := by
  intro L J Jx hy hJ
  have hF : ∀ Φ ∈ [BoxF b 142 [.slice p xs.length c], GlF p xs], Stable M w0 Φ := by simp; exact ⟨f1, f2⟩
  refine (callsIn_wide (n := 0)).2 ?_
  refine enter Tryz.func190 rfl rfl (Wd.beginM (M := M) (fs := [BoxF b 142 [.slice p xs.length c], GlF p xs]) hM hF) (fun a S => ?_)
  simp only [Tryz.ntmps190, List.length_cons, List.length_nil, Nat.reduceAdd, Nat.reduceSub, List.replicate_succ, List.replicate_zero, List.cons_append, List.nil_append] at S
  refine c_seq ?_; refine c_region ?_; (iterate 3 (refine sq S ?_; clear S; intro a S)); refine wl_nil ?_; refine xtn ?_; refine c_block ?_
  refine c_loop (ι := Nat) (fun k a w => k ≤ xs.length ∧ ∃ N w1, J k w1 ∧ ∃ uu : Nat → Value,  St w1 (fun _ => False) [] a w ((.func (.yield L) #[] #[]) :: (.pointer (some ⟨b, 0, none⟩)) :: uu 2 :: uu 3 :: uu 4 :: (.slice p xs.length c) :: (.int .i64 xs.length) :: (.int .i64 (k : Nat)) :: uu 8 :: uu 9 :: uu 10 :: uu 11 :: uu 12 :: uu 13 :: uu 14 :: uu 15 :: []) [ext N] [BoxF b 142 [.slice p xs.length c], GlF p xs]) (fun k => xs.length - k) 0 ?_ ?_
  · exact ⟨Nat.zero_le _, M, w0, hJ, S.uu, S⟩
  · clear S
    rintro k a w ⟨hk, N, w1, hJk, uu, S⟩
    refine c_seq ?_; refine c_region ?_; refine sq S ?_; clear S; intro a S; refine wl_nil ?_; refine xtn ?_; refine c_seq ?_
    refine c_cond S (fun h1 => ?_) (fun h1 => ?_)
    · refine c_skip ?_; refine xtn ?_; refine c_seq ?_; refine c_block ?_; refine c_seq ?_
      have hkl : k < xs.length := by simp at h1; omega
      have hK : KLt k xs.length := ⟨hkl⟩
      refine c_region ?_; (iterate 2 (refine sq S ?_; clear S; intro a S))
      refine sa S ?_; clear S; intro b4 a w S
      refine sw S ?_; clear S; intro a w S; refine wl_nil ?_; refine xtn ?_; refine c_seq ?_; refine c_region ?_; (iterate 2 (refine sq S ?_; clear S; intro a S))
      refine sy S (M := M) (wI := w0) (fs0 := [BoxF b 142 [.slice p xs.length c], GlF p xs]) hF (hy k _ _ w1 w (nthG_get hkl) hJk S.wd.agree rfl) ?_; clear S; intro ok N' a w2 hT hX S
      refine sq S ?_; clear S; intro a S; refine wl_nil ?_; refine xtn ?_
      refine c_cond S (fun h3 => ?_) (fun h3 => ?_)
      · refine c_ret ?_; refine xbr ?_; (iterate 2 (refine xtr ?_)); refine xbr ?_
        exact endI S ⟨w2, S.wd.agree, .inr (hX (by simpa using h3))⟩
      · refine c_skip ?_; refine xbn ?_; refine xtn ?_; refine c_region ?_; (iterate 2 (refine sq S ?_; clear S; intro a S)); refine wl_nil ?_; refine xtn ?_
        rw [w64 ((k : Int) + 1) (by omega) (by omega)] at S
        exact ⟨k + 1, ⟨hkl, N', w2, hT (by simpa using h3), S.uu, S⟩, by omega⟩
    · refine c_exit ?_; (iterate 2 (refine xte ?_)); refine xbe ?_
      refine endI S ⟨w1, S.wd.agree, .inl ?_⟩
      have h9 : k = xs.length := by simp at h1; omega
      rw [← h9]; exact hJk
theorem rappendSeq_c (gf : Nat) [EntF Tryz.prog gf] (lb : List Value) (ys : List LRow) (xs : List Value) (fs0 : List (World → Prop)) (p : Option Addr) (n c : Nat) (w0 : World) (hl : n + ys.length ≤ 10000000) (hown : w0.ownsRow 0 45 6 (.slice p n c) n xs)
    (hfs : ∀ Φ ∈ fs0, Stable (fun k => ∃ ad, p = some ad ∧ k = ad.block) w0 Φ)
    (hit : ∀ (M : Nat → Prop) (w1 : World), (∀ k, M k → k < w1.heap.size) → (∀ Φ ∈ fs0, Stable M w1 Φ) → IterRet Tryz.prog gf lb w1 M (fun (x : LRow) vs _ _ => vs = [vRow x]) ys) :
    Ret Tryz.prog 189 [.slice p n c, .func (.func gf) #[] ⟨lb⟩] w0 (fun k => ∃ ad, p = some ad ∧ k = ad.block) fun v w' =>
      ∃ p' c', v = .slice p' (n + ys.length) c' ∧ w'.ownsRow 0 45 6 (.slice p' (n + ys.length) c') (n + ys.length) (xs ++ encL ys) ∧ ∀ ad, p' = some ad → (∃ ad', p = some ad' ∧ ad.block = ad'.block) ∨ w0.heap.size ≤ ad.block := by
  refine enterM Tryz.func189 rfl rfl (Wd.rowLent hown hfs) (fun a S => ?_)
  simp only [Tryz.ntmps189, List.length_cons, List.length_nil, Nat.reduceAdd, Nat.reduceSub, List.replicate_succ, List.replicate_zero, List.cons_append, List.nil_append] at S
  refine c_seq ?_; refine c_region ?_
  refine sa S ?_; clear S; intro b2 a w S
  refine sq S ?_; clear S; intro a S; refine wl_nil ?_; refine xtn ?_; (iterate 2 (refine c_seq ?_)); refine c_region ?_; refine sq S ?_; clear S; intro a S; refine wl_nil ?_; refine xtn ?_; refine c_block ?_
  refine c_range (κ := Option Addr × Nat) (κx := Empty) (Ds := []) ys
    (fun i k => [Wk.box b2 22 [.slice k.1 (n + i) k.2], marks [], Wk.row 45 6 k.1 (n + i) k.2 (xs ++ encL (ys.take i))]) (fun _ _ => fs0) (fun _ _ => True) (fun k => k.elim) (fun k => k.elim) (fun _ k => k.elim) (p, c) S (fun M w1 hM hF _ => hit M w1 hM hF) ⟨trivial, by simp [encL], rfl⟩ ?_ ?_ ?_ ?_
  · clear S
    rintro L D bL M w1 i x vs ⟨p, c⟩ W0 w hx - hW0 hgr rfl
    refine ⟨_, inferInstance, fun a S => ?_⟩
    have hil : i < ys.length := (List.getElem?_eq_some_iff.1 hx).1
    have hti : ys.take (i + 1) = ys.take i ++ [x] := by rw [List.take_add_one, hx]; rfl
    have hKL : KLt (n + i) (n + i + 1) := ⟨by omega⟩
    have hrl : (xs ++ encL (ys.take i)).length = (n + i) * 6 := S.row p (n + i) |>.1
    refine c_region ?_
    refine sa S ?_; clear S; intro b5 a w S
    refine sw S ?_; clear S; intro a w S; refine wl_nil ?_; refine xtn ?_
    refine rbegin (D := D) (b := bL) S ?_; clear S; intro a w S
    refine c_block ?_; refine c_region ?_; (iterate 2 (refine sq S ?_; clear S; intro a S))
    refine sn S ?_; clear S; intro b10 a w S
    refine sap S (by simp [maxLen]; omega) (by omega) ?_; clear S; rintro p2 c2 a w - S
    rw [List.append_assoc, show encL (ys.take i) ++ [str x.name, .int .i64 x.term.kind, .int .i64 x.term.user, .int .i64 x.term.num, str x.term.text, .slice x.term.p x.term.kids.length x.term.cap] = encL (ys.take (i + 1)) from by rw [hti, encL_append]; rfl] at S
    refine sw S ?_; clear S; intro a w S; refine wl_nil ?_; refine xbn ?_
    replace S := S.sub [lpI L D (lpR bL .busy none), Wk.box b2 22 [.slice p2 (n + i + 1) c2], marks [], Wk.row 45 6 p2 (n + i + 1) c2 (xs ++ encL (ys.take (i + 1)))] fs0
    exact rnext (D := D) (b := bL) S fun W hW => ⟨(p2, c2), trivial, hW⟩
  · clear S
    rintro D ⟨p2, c2⟩ a w - S
    refine xbn ?_; refine xtn ?_; refine c_seq ?_; refine c_region ?_; (iterate 2 (refine sq S ?_; clear S; intro a S)); refine wl_nil ?_; refine xtn ?_; refine c_ret ?_
    replace S := S.join (Ds := [])
    have hrow := S.row p2 (n + ys.length)
    have hnew := S.rowNew p2 (n + ys.length)
    refine endM1 S (fun w hw => ?_)
    have h1 := hw.held (Wk.row 45 6 p2 (n + ys.length) c2 (xs ++ encL (ys.take ys.length))) (by simp)
    rw [List.take_length] at h1
    exact ⟨p2, c2, rfl, h1, hnew⟩
  · intro D k; exact k.elim
  · intro id D k; exact k.elim
theorem collectR_c (b : Nat) (xs : List LRow) (p : Option Addr) (c : Nat) (hl : xs.length ≤ 1000000) (w0 : World) (f1 : Stable (fun _ => False) w0 (BoxF b 142 [.slice p xs.length c])) (f2 : Stable (fun _ => False) w0 (GlF p xs)) :
    Ret Tryz.prog 95 [alV b] w0 (fun _ => False) fun v w' => ∃ p' c', v = .slice p' xs.length c' ∧ w'.ownsRow 0 45 6 (.slice p' xs.length c') xs.length (encL xs) ∧ ∀ ad, p' = some ad → w0.heap.size ≤ ad.block := by
  refine enter Tryz.func95 rfl rfl (Wd.begin (fs := [BoxF b 142 [.slice p xs.length c], GlF p xs]) (by simp; exact ⟨f1, f2⟩)) (fun a S => ?_)
  simp only [Tryz.ntmps95, List.length_cons, List.length_nil, Nat.reduceAdd, Nat.reduceSub, List.replicate_succ, List.replicate_zero, List.cons_append, List.nil_append] at S
  refine c_seq ?_; refine c_region ?_; refine sq S ?_; clear S; intro a S; refine wl_nil ?_; refine xtn ?_; refine c_seq ?_; refine c_region ?_; refine sq S ?_; clear S; intro a S
  replace S := S.addNil 45 6
  refine srg none 0 S (rappendSeq_c 190 [.pointer (some ⟨b, 0, none⟩)] xs [] [BoxF b 142 [.slice p xs.length c], GlF p xs] none 0 0 _ (by omega) (S.row none 0) (fun Φ hΦ => by
    simp only [List.mem_cons, List.not_mem_nil, or_false] at hΦ
    rcases hΦ with rfl | rfl
    · exact (S.mem.fact (BoxF b 142 [.slice p xs.length c])).less fun _ _ ⟨_, h, _⟩ => by cases h
    · exact (S.mem.fact (GlF p xs)).less fun _ _ ⟨_, h, _⟩ => by cases h) (fun M w1 hM hF => all_vit b xs p c hl w1 M hM (hF _ (by simp)) (hF _ (by simp)))) ?_; clear S; rintro _ a w ⟨p2, c2, rfl, hown2, hnew2⟩ hS
  have S := hS _ hown2 hnew2
  clear hS
  rw [List.nil_append, Nat.zero_add] at S
  refine sq S ?_; clear S; intro a S; refine wl_nil ?_; refine xtn ?_; refine c_ret ?_
  have hrow := S.row p2 xs.length
  have hnew := S.rowNew p2 xs.length
  refine end1 S (fun _ => ?_)
  exact ⟨p2, c2, rfl, hrow, fun ad h => (hnew ad h).elim (fun h => h.elim) id⟩
theorem rgone_c (r : LRow) (w0 : World) (hf : Stable (fun _ => False) w0 (LtF r.term)) : Ret Tryz.prog 22 [vRow r] w0 (fun _ => False) fun v _ => v = .bool (goneP r.r) := by
  refine enter Tryz.func22 rfl rfl (Wd.begin (fs := [LtF r.term]) (by simpa using hf)) (fun a S => ?_)
  simp only [Tryz.ntmps22, List.length_cons, List.length_nil, Nat.reduceAdd, Nat.reduceSub, List.replicate_succ, List.replicate_zero, List.cons_append, List.nil_append] at S
  refine c_seq ?_; refine c_region ?_
  refine sa S ?_; clear S; intro b1 a w S
  refine sq S ?_; clear S; intro a S; refine wl_nil ?_; refine xtn ?_; refine c_seq ?_; refine c_region ?_; (iterate 3 (refine sq S ?_; clear S; intro a S))
  refine sr S (rsame_c r.term zeroL _ (S.t0 _) (S.t0 _)) ?_; clear S; rintro _ a w rfl S
  refine sq S ?_; clear S; intro a S; refine wl_nil ?_; refine xtn ?_; refine c_ret ?_
  exact end1 S (fun _ => rfl)
instance {r : LRow} {bs fs} [HasT fs r.term] : CallV Tryz.prog 22 [vRow r] bs fs (.bool (goneP r.r)) := ⟨fun w m => rgone_c r w (m.t0 _)⟩
instance {x y : LTerm} {bs fs} [hx : HasT fs x] [hy : HasT fs y] : CallV Tryz.prog 85 [vL x, vL y] bs fs (.bool (sameF x.t y.t)) := ⟨fun w m => rsame_c x y w (m.t0 _) (m.t0 _)⟩
theorem rsame19_c (xs ys : List LRow) (p q : Option Addr) (n m c d : Nat) (w0 : World) (hn : xs.length = n) (hm : ys.length = m) (hl : n ≤ 9223372036854775806) (he : rsP xs = rsP ys) (hx : Stable (fun _ => False) w0 (GlF p xs)) (hy : Stable (fun _ => False) w0 (GlF q ys)) :
    Ret Tryz.prog 25 [.slice p n c, .slice q m d] w0 (fun _ => False) fun v _ => v = .bool true := by
  have hlen : xs.length = ys.length := by have := congrArg List.length he; simpa [rsP] using this
  have hnm : n = m := by omega
  subst hnm
  subst hn
  have hrow : ∀ i, i < xs.length → (nthG xs i).r = (nthG ys i).r := fun i hi => by
    have h1 : (rsP xs)[i]? = some (nthG xs i).r := by rw [rsP, List.getElem?_map, nthG_get hi]; rfl
    have h2 : (rsP ys)[i]? = some (nthG ys i).r := by rw [rsP, List.getElem?_map, nthG_get (by omega)]; rfl
    rw [he, h2] at h1
    exact (Option.some.inj h1).symm
  refine enter Tryz.func25 rfl rfl (Wd.begin (fs := [GlF p xs, GlF q ys]) (by simp; exact ⟨hx, hy⟩)) (fun a S => ?_)
  simp only [Tryz.ntmps25, List.length_cons, List.length_nil, Nat.reduceAdd, Nat.reduceSub, List.replicate_succ, List.replicate_zero, List.cons_append, List.nil_append] at S
  refine c_seq ?_; refine c_region ?_; refine sq S ?_; clear S; intro a S; refine wl_nil ?_; refine xtn ?_; (iterate 2 (refine c_seq ?_)); refine c_region ?_; (iterate 5 (refine sq S ?_; clear S; intro a S)); refine wl_nil ?_; refine xtn ?_
  refine c_cond S (fun h1 => ?_) (fun h1 => ?_)
  · refine c_seq ?_; refine c_region ?_; refine sq S ?_; clear S; intro a S; refine wl_nil ?_; refine xtn ?_; refine c_ret ?_; refine xtr ?_
    simp at h1
  · refine c_skip ?_; refine xtn ?_; (iterate 2 (refine c_seq ?_)); refine c_region ?_; refine sq S ?_; clear S; intro a S; refine wl_nil ?_; refine xtn ?_; refine c_block ?_
    refine c_forb1 S (fun (k : Nat) uu => [(4, uu 4), (0, .int .i64 (k : Nat)), (5, uu 11), (0, uu 12), (0, uu 13), (0, uu 14), (0, uu 15), (0, uu 16), (0, uu 17), (0, uu 18), (0, uu 19), (0, uu 20), (0, uu 21), (0, uu 22), (0, uu 23), (0, uu 24), (0, uu 25), (0, uu 26), (0, uu 27), (0, uu 28), (0, uu 29), (0, uu 30), (0, uu 31), (0, uu 32), (0, uu 33), (0, uu 34), (0, uu 35), (0, uu 36), (0, uu 37), (0, uu 38), (0, uu 39), (0, uu 40), (0, uu 41)]) (fun (k : Nat) => k ≤ xs.length) (fun (k : Nat) => xs.length - k) (0) ?_ S.uu ?_ ?_
    · exact Nat.zero_le _
    · first | exact S | exact S.sub _ _
    · clear S; rintro k uu a w hk S
      (iterate 2 (refine c_seq ?_)); refine c_region ?_; (iterate 4 (refine sq S ?_; clear S; intro a S)); refine wl_nil ?_; refine xtn ?_
      refine c_cond S (fun h4 => ?_) (fun h4 => ?_)
      · refine c_skip ?_; refine xtn ?_; refine c_seq ?_; refine c_block ?_; refine c_seq ?_
        have hkl : k < xs.length := by simp at h4; omega
        have hK : KLt k xs.length := ⟨hkl⟩
        have hK2 : KLt k ys.length := ⟨by omega⟩
        have hr := hrow k hkl
        have hr1 : (nthG xs k).name = (nthG ys k).name := congrArg PRow.name hr
        have hr2 : (nthG xs k).term.t = (nthG ys k).term.t := congrArg PRow.term hr
        refine c_drawD [(0, true), (1, true), (2, true), (3, true), (4, true), (5, true), (6, true), (7, true), (8, true), (9, true), (10, true), (11, true), (12, true), (13, true), (14, true), (15, true), (16, true), (17, true), (18, true), (19, true), (20, true), (21, true), (22, false), (23, true), (24, true)] [] S ?_; clear S; intro w S
        (iterate 12 (refine dq S ?_; clear S; intro a S)); (iterate 10 (refine dqG S ?_; clear S; intro a S)); refine dl ?_; refine gC S ?_; clear S; intro a w S; refine de S ?_; refine dqG S ?_; clear S; intro a S; refine dq S ?_; clear S; intro a S; refine dn ?_; refine xtn ?_
        refine c_cond S (fun h6 => ?_) (fun h6 => ?_)
        · refine c_seq ?_; refine c_region ?_; refine sq S ?_; clear S; intro a S; refine wl_nil ?_; refine xtn ?_; refine c_ret ?_; refine xbr ?_; (iterate 2 (refine xtr ?_)); refine xbr ?_; refine xtr ?_
          rw [hr1, hr2, (sameF_iff _ _).2 rfl] at h6
          simp at h6
        · refine c_skip ?_; refine xbn ?_; refine xtn ?_; refine c_region ?_; (iterate 2 (refine sq S ?_; clear S; intro a S))
          rw [w64 ((k : Int) + 1) (by omega) (by omega), show (k : Int) + 1 = ((k + 1 : Nat) : Int) from rfl] at S
          refine sq S ?_; clear S; intro a S; refine wl_nil ?_; refine xtn ?_
          exact ⟨k + 1, S.uu, hkl, S.sub _ _, by omega⟩
      · refine c_exit ?_; (iterate 2 (refine xte ?_)); refine xbe ?_; refine xtn ?_; refine c_seq ?_; refine c_region ?_; refine sq S ?_; clear S; intro a S; refine wl_nil ?_; refine xtn ?_; refine c_ret ?_
        exact end1 S (fun _ => rfl)
theorem rbehind_c (rows : List LRow) (p : Option Addr) (c : Nat) (l : List LRow) (q : Option Addr) (d : Nat) (M : Nat → Prop) (w0 : World) (hn : rows.length ≤ 300) (hl : l.length ≤ 300) (hM : ∀ k, M k → k < w0.heap.size) (hr : Stable M w0 (GlF p rows)) (hs : Stable M w0 (GlF q l)) (hup : SortedP (rsP rows)) :
    Ret Tryz.prog 23 [.slice p rows.length c, .slice q l.length d] w0 (fun _ => False) fun v w' => ∃ ys p' c', v = .slice p' ys.length c' ∧ Stable M w' (GlF p' ys) ∧ rsP ys = behP (rsP rows) (rsP l) := by
  refine enter Tryz.func23 rfl rfl (Wd.beginM (M := M) (fs := [GlF p rows, GlF q l]) hM (by simp; exact ⟨hr, hs⟩)) (fun a S => ?_)
  simp only [Tryz.ntmps23, List.length_cons, List.length_nil, Nat.reduceAdd, Nat.reduceSub, List.replicate_succ, List.replicate_zero, List.cons_append, List.nil_append] at S
  refine c_seq ?_; refine c_region ?_; refine sq S ?_; clear S; intro a S; refine wl_nil ?_; refine xtn ?_; (iterate 2 (refine c_seq ?_)); refine c_region ?_; refine sq S ?_; clear S; intro a S; refine wl_nil ?_; refine xtn ?_; refine c_block ?_
  refine c_fore4 S (fun (k : Nat) (ys : List LRow) (p0 : Option Addr) (c0 : Nat) uu => [(0, .slice p0 ys.length c0), (4, .int .i64 (k : Nat)), (0, uu 6), (0, uu 7), (0, uu 8), (0, uu 9), (0, uu 10), (0, uu 11), (0, uu 12), (0, uu 13), (0, uu 14), (0, uu 15), (0, uu 16), (0, uu 17), (0, uu 18), (0, uu 19), (0, uu 20), (0, uu 21), (0, uu 22), (0, uu 23), (0, uu 24), (0, uu 25), (0, uu 26), (0, uu 27), (0, uu 28), (0, uu 29), (0, uu 30), (0, uu 31), (0, uu 32), (0, uu 33), (0, uu 34), (0, uu 35), (0, uu 36), (0, uu 37), (0, uu 38), (0, uu 39), (0, uu 40), (0, uu 41), (0, uu 42), (0, uu 43), (0, uu 44), (0, uu 45), (0, uu 46), (0, uu 47), (0, uu 48), (0, uu 49), (0, uu 50), (0, uu 51), (0, uu 52), (0, uu 53), (0, uu 54), (0, uu 55), (0, uu 56), (0, uu 57), (0, uu 58), (0, uu 59), (0, uu 60), (0, uu 61), (0, uu 62), (0, uu 63), (0, uu 64), (0, uu 65), (0, uu 66), (0, uu 67), (0, uu 68), (0, uu 69), (0, uu 70), (0, uu 71), (0, uu 72), (0, uu 73), (0, uu 74), (0, uu 75)]) (fun (k : Nat) (ys : List LRow) (p0 : Option Addr) (c0 : Nat) => [ext M]) (fun (k : Nat) (ys : List LRow) (p0 : Option Addr) (c0 : Nat) => [GlF p0 ys, GlF q l]) (fun (k : Nat) (ys : List LRow) (p0 : Option Addr) (c0 : Nat) => k ≤ l.length ∧ ys.length ≤ rows.length + k ∧ rsP ys = behP (rsP rows) (rsP (l.take k))) (fun (k : Nat) (ys : List LRow) (p0 : Option Addr) (c0 : Nat) => l.length - k) (0) (rows) (p) (c) ?_ S.uu ?_ ?_
  · exact ⟨Nat.zero_le _, Nat.le_refl _, rfl⟩
  · first | exact S | exact S.sub _ _
  · clear S; rintro k ys p0 c0 uu a w ⟨hk, hyl, hrel⟩ S
    (iterate 2 (refine c_seq ?_)); refine c_region ?_; (iterate 4 (refine sq S ?_; clear S; intro a S)); refine wl_nil ?_; refine xtn ?_
    refine c_cond S (fun h2 => ?_) (fun h2 => ?_)
    · refine c_skip ?_; refine xtn ?_; refine c_seq ?_; refine c_block ?_; refine c_seq ?_; refine c_region ?_; refine sq S ?_; clear S; intro a S; refine wl_nil ?_; refine xtn ?_; refine c_seq ?_
      have hkl : k < l.length := by simp at h2; omega
      have hK : KLt k l.length := ⟨hkl⟩
      have hsort : SortedP (rsP ys) := by rw [hrel]; exact behP_sorted _ _ hup
      refine c_region ?_; (iterate 4 (refine sq S ?_; clear S; intro a S)); refine sc S ?_; clear S; intro a w S; refine sq S ?_; clear S; intro a S; refine wl_nil ?_; refine xtn ?_; (iterate 2 (refine c_seq ?_)); refine c_region ?_; refine sq S ?_; clear S; intro a S; refine wl_nil ?_; refine xtn ?_; refine c_block ?_
      refine c_fore5 S (fun (j : Nat) (zs : List LRow) (dn' : Bool) (pz : Option Addr) (cz : Nat) uu => [(6, .slice pz zs.length cz), (0, .bool dn'), (0, .int .i64 (j : Nat)), (11, uu 20), (0, uu 21), (0, uu 22), (0, uu 23), (0, uu 24), (0, uu 25), (0, uu 26), (0, uu 27), (0, uu 28), (0, uu 29), (0, uu 30), (0, uu 31), (0, uu 32), (0, uu 33), (0, uu 34), (0, uu 35), (0, uu 36), (0, uu 37), (0, uu 38), (0, uu 39), (0, uu 40), (0, uu 41), (0, uu 42), (0, uu 43), (0, uu 44), (0, uu 45), (0, uu 46), (0, uu 47), (0, uu 48), (0, uu 49), (0, uu 50), (0, uu 51), (0, uu 52), (0, uu 53), (0, uu 54), (0, uu 55), (0, uu 56), (0, uu 57), (0, uu 58), (0, uu 59), (0, uu 60), (0, uu 61), (0, uu 62), (0, uu 63), (0, uu 64), (0, uu 65)]) (fun (j : Nat) (zs : List LRow) (dn' : Bool) (pz : Option Addr) (cz : Nat) => [Wk.row 45 6 pz zs.length cz (encL zs), ext M]) (fun (j : Nat) (zs : List LRow) (dn' : Bool) (pz : Option Addr) (cz : Nat) => [AllI zs, GlF p0 ys, GlF q l]) (fun (j : Nat) (zs : List LRow) (dn' : Bool) (pz : Option Addr) (cz : Nat) => j ≤ ys.length ∧ zs.length ≤ j + (if dn' then 1 else 0) ∧ rsP zs ++ inB (nthG l k).r dn' (rsP (ys.drop j)) = putP (rsP ys) (nthG l k).r) (fun (j : Nat) (zs : List LRow) (dn' : Bool) (pz : Option Addr) (cz : Nat) => ys.length - j) (0) ([]) (goneP (nthG l k).r) (none) (0) ?_ S.uu ?_ ?_
      · exact ⟨Nat.zero_le _, by simp, by rw [List.drop_zero]; exact inB_put _ _ hsort⟩
      · replace S := S.addNil 45 6
        replace S := S.add (Φ := AllI ([] : List LRow)) (fun _ _ _ hx => by cases hx)
        rw [show Wk.row 45 6 none 0 0 [] = Wk.row 45 6 none 0 0 (encL ([] : List LRow)) from rfl] at S
        exact S.sub _ _
      · clear S; rintro j zs dn' pz cz uu a w ⟨hj, hzl, hrel2⟩ S
        (iterate 2 (refine c_seq ?_)); refine c_region ?_; (iterate 4 (refine sq S ?_; clear S; intro a S)); refine wl_nil ?_; refine xtn ?_
        refine c_cond S (fun h7 => ?_) (fun h7 => ?_)
        · refine c_skip ?_; refine xtn ?_; refine c_seq ?_; refine c_block ?_; (iterate 2 (refine c_seq ?_))
          have hjl : j < ys.length := by simp at h7; omega
          have hJ : KLt j ys.length := ⟨hjl⟩
          have hdy : rsP (ys.drop j) = (nthG ys j).r :: rsP (ys.drop (j + 1)) := by rw [nthG_drop hjl]; rfl
          rw [hdy, inB] at hrel2
          have hn1 : (nthG ys j).r.name = (nthG ys j).name := rfl
          have hn2 : (nthG l k).r.name = (nthG l k).name := rfl
          rw [hn1, hn2] at hrel2
          have hif : (if dn' = true then 1 else 0) ≤ 1 := by split <;> omega
          refine c_drawD [(0, true), (1, true), (2, true), (3, true), (4, true), (5, true), (6, true), (7, true), (8, true), (9, true), (10, true)] [] S ?_; clear S; intro w S
          (iterate 11 (refine dq S ?_; clear S; intro a S)); refine dn ?_; refine xtn ?_
          refine c_cond S (fun h9 => ?_) (fun h9 => ?_)
          · refine c_exit ?_; refine xte ?_; refine xbe ?_; refine xtn ?_; refine c_region ?_; (iterate 3 (refine sq S ?_; clear S; intro a S)); refine wl_nil ?_; refine xtn ?_
            have he : (nthG ys j).name = (nthG l k).name := by simpa using h9
            rw [if_pos he] at hrel2
            rw [w64 ((j : Int) + 1) (by omega) (by omega), show (j : Int) + 1 = ((j + 1 : Nat) : Int) from rfl] at S
            exact ⟨j + 1, zs, dn', pz, cz, S.uu, ⟨hjl, by omega, hrel2⟩, S.sub _ _, by omega⟩
          · refine c_skip ?_; refine xtn ?_
            refine c_mrge4 S (fun (z1 : List LRow) (d1 : Bool) (pz1 : Option Addr) (cz1 : Nat) uu => [(6, .slice pz1 z1.length cz1), (0, .bool d1), (29, uu 37), (0, uu 38), (0, uu 39), (0, uu 40), (0, uu 41), (0, uu 42), (0, uu 43), (0, uu 44), (0, uu 45), (0, uu 46), (0, uu 47), (0, uu 48), (0, uu 49), (0, uu 50), (0, uu 51), (0, uu 52), (0, uu 53), (0, uu 54), (0, uu 55), (0, uu 56), (0, uu 57), (0, uu 58)]) (fun (z1 : List LRow) (d1 : Bool) (pz1 : Option Addr) (cz1 : Nat) => [Wk.row 45 6 pz1 z1.length cz1 (encL z1), ext M]) (fun (z1 : List LRow) (d1 : Bool) (pz1 : Option Addr) (cz1 : Nat) => [AllI z1, GlF p0 ys, GlF q l]) (fun (z1 : List LRow) (d1 : Bool) (pz1 : Option Addr) (cz1 : Nat) => z1.length ≤ j + (if d1 then 1 else 0) ∧ rsP z1 ++ (nthG ys j).r :: inB (nthG l k).r d1 (rsP (ys.drop (j + 1))) = putP (rsP ys) (nthG l k).r) ?_ ?_
            · refine c_seq ?_
              refine c_drawD [(0, true), (1, true), (2, true), (3, true), (4, true), (5, true), (6, true), (7, true), (8, true), (9, true), (10, true), (11, true), (12, true), (13, true), (14, true)] [] S ?_; clear S; intro w S
              (iterate 3 (refine dq S ?_; clear S; intro a S)); (iterate 11 (refine dqG S ?_; clear S; intro a S)); refine dq S ?_; clear S; intro a S; refine dn ?_; refine xtn ?_
              refine c_cond S (fun h10 => ?_) (fun h10 => ?_)
              · refine c_seq ?_; refine c_region ?_; (iterate 5 (refine sq S ?_; clear S; intro a S))
                refine sn S ?_; clear S; intro b57 a w S
                refine sap S (by simp [maxLen]; omega) (by omega) ?_; clear S; rintro p11 c11 a w - S
                rw [show encL zs ++ [str (nthG l k).name, .int .i64 (nthG l k).term.kind, .int .i64 (nthG l k).term.user, .int .i64 (nthG l k).term.num, str (nthG l k).term.text, .slice (nthG l k).term.p (nthG l k).term.kids.length (nthG l k).term.cap] = encL (zs ++ [nthG l k]) from by rw [encL_append]; rfl, show zs.length + 1 = (zs ++ [nthG l k]).length from by simp] at S
                have hA1 : Stable _ _ (AllI zs) := S.wd.facts (AllI zs) (by simp)
                have hA2 : Stable _ _ (GlF q l) := S.wd.facts (GlF q l) (by simp)
                replace S := S.add (Φ := AllI (zs ++ [nthG l k])) (fun w' hw' x hx => by
                  rcases List.mem_append.1 hx with h | h
                  · exact hA1 w' hw' x h
                  · rw [List.mem_singleton.1 h]; exact (hA2 w' hw').2 _ (nthG_mem hkl))
                refine sq S ?_; clear S; intro a S; refine wl_nil ?_; refine xtn ?_; refine c_region ?_; refine sq S ?_; clear S; intro a S; refine wl_nil ?_; refine xtn ?_
                have he : ¬ (nthG ys j).name = (nthG l k).name := by simpa using h9
                rw [if_neg he, if_pos h10] at hrel2
                have hdn : dn' = false := by cases hd : dn' with
                  | false => rfl
                  | true => rw [hd] at h10; simp at h10
                rw [hdn] at hzl
                refine ⟨zs ++ [nthG l k], true, p11, c11, S.uu, ⟨?_, ?_⟩, S.sub _ _⟩
                · simp at hzl ⊢; omega
                · rw [← hrel2]; simp [rsP]
              · refine c_skip ?_; refine xtn ?_
                have he : ¬ (nthG ys j).name = (nthG l k).name := by simpa using h9
                rw [if_neg he, if_neg (by rw [h10]; simp)] at hrel2
                exact ⟨zs, dn', pz, cz, S.uu, ⟨hzl, hrel2⟩, S.sub _ _⟩
            · clear S; rintro z1 d1 pz1 cz1 uu a w ⟨hzl1, hrel3⟩ S
              refine c_region ?_; (iterate 5 (refine sq S ?_; clear S; intro a S))
              refine sn S ?_; clear S; intro b64 a w S
              have hif1 : (if d1 = true then 1 else 0) ≤ 1 := by split <;> omega
              refine sap S (by simp [maxLen]; omega) (by omega) ?_; clear S; rintro p13 c13 a w - S
              rw [show encL z1 ++ [str (nthG ys j).name, .int .i64 (nthG ys j).term.kind, .int .i64 (nthG ys j).term.user, .int .i64 (nthG ys j).term.num, str (nthG ys j).term.text, .slice (nthG ys j).term.p (nthG ys j).term.kids.length (nthG ys j).term.cap] = encL (z1 ++ [nthG ys j]) from by rw [encL_append]; rfl, show z1.length + 1 = (z1 ++ [nthG ys j]).length from by simp] at S
              have hA1 : Stable _ _ (AllI z1) := S.wd.facts (AllI z1) (by simp)
              have hA2 : Stable _ _ (GlF p0 ys) := S.wd.facts (GlF p0 ys) (by simp)
              replace S := S.add (Φ := AllI (z1 ++ [nthG ys j])) (fun w' hw' x hx => by
                rcases List.mem_append.1 hx with h | h
                · exact hA1 w' hw' x h
                · rw [List.mem_singleton.1 h]; exact (hA2 w' hw').2 _ (nthG_mem hjl))
              refine sq S ?_; clear S; intro a S; refine wl_nil ?_; refine xbn ?_; refine xtn ?_; refine c_region ?_; (iterate 3 (refine sq S ?_; clear S; intro a S)); refine wl_nil ?_; refine xtn ?_
              rw [w64 ((j : Int) + 1) (by omega) (by omega), show (j : Int) + 1 = ((j + 1 : Nat) : Int) from rfl] at S
              refine ⟨j + 1, z1 ++ [nthG ys j], d1, p13, c13, S.uu, ⟨hjl, by simp; omega, ?_⟩, S.sub _ _, by omega⟩
              rw [← hrel3]; simp [rsP]
        · refine c_exit ?_; (iterate 2 (refine xte ?_)); refine xbe ?_; refine xtn ?_; (iterate 2 (refine c_seq ?_))
          have hjy : ys.length ≤ j := by simp at h7; omega
          rw [List.drop_of_length_le hjy, show rsP [] = [] from rfl, inB] at hrel2
          have hif : (if dn' = true then 1 else 0) ≤ 1 := by split <;> omega
          have hA1 : Stable _ _ (AllI zs) := S.wd.facts (AllI zs) (by simp)
          refine c_region ?_; (iterate 2 (refine sq S ?_; clear S; intro a S)); refine wl_nil ?_; refine xtn ?_
          refine c_cond S (fun h14 => ?_) (fun h14 => ?_)
          · refine c_region ?_; (iterate 5 (refine sq S ?_; clear S; intro a S))
            refine sn S ?_; clear S; intro b73 a w S
            refine sap S (by simp [maxLen]; omega) (by omega) ?_; clear S; rintro p15 c15 a w - S
            rw [show encL zs ++ [str (nthG l k).name, .int .i64 (nthG l k).term.kind, .int .i64 (nthG l k).term.user, .int .i64 (nthG l k).term.num, str (nthG l k).term.text, .slice (nthG l k).term.p (nthG l k).term.kids.length (nthG l k).term.cap] = encL (zs ++ [nthG l k]) from by rw [encL_append]; rfl, show zs.length + 1 = (zs ++ [nthG l k]).length from by simp] at S
            refine sq S ?_; clear S; intro a S; refine wl_nil ?_; refine xtn ?_; refine c_region ?_; (iterate 2 (refine sq S ?_; clear S; intro a S)); refine wl_nil ?_; refine xbn ?_; refine xtn ?_; refine c_region ?_; (iterate 3 (refine sq S ?_; clear S; intro a S)); refine wl_nil ?_; refine xtn ?_
            have hdn : dn' = false := by simpa using h14
            have hstep : behP (rsP rows) (rsP (l.take (k + 1))) = putP (rsP ys) (nthG l k).r := by rw [hrel, take_snocG hkl, rsP, rsP, rsP, List.map_append, behP, behP, List.foldl_append]; rfl
            have hA2 : Stable _ _ (GlF q l) := S.wd.facts (GlF q l) (by simp)
            have hA1' : Stable _ _ (AllI zs) := S.wd.facts (AllI zs) (by simp)
            replace S := S.rowToGl p15 (zs ++ [nthG l k]) (e := 45) (sz := 6) (n := (zs ++ [nthG l k]).length) (c := c15) (fun w' hw' x hx => by
              rcases List.mem_append.1 hx with h | h
              · exact hA1' w' hw' x h
              · rw [List.mem_singleton.1 h]; exact (hA2 w' hw').2 _ (nthG_mem hkl))
            rw [w64 ((k : Int) + 1) (by omega) (by omega), show (k : Int) + 1 = ((k + 1 : Nat) : Int) from rfl] at S
            rw [hdn] at hrel2 hzl
            refine ⟨k + 1, zs ++ [nthG l k], p15, c15, S.uu, ⟨hkl, by simp at hzl ⊢; omega, ?_⟩, S.sub _ _, by omega⟩
            rw [hstep, ← hrel2]; simp [rsP]
          · refine c_skip ?_; refine xtn ?_; refine c_region ?_; (iterate 2 (refine sq S ?_; clear S; intro a S)); refine wl_nil ?_; refine xbn ?_; refine xtn ?_; refine c_region ?_; (iterate 3 (refine sq S ?_; clear S; intro a S)); refine wl_nil ?_; refine xtn ?_
            have hdn : dn' = true := by simpa using h14
            have hstep : behP (rsP rows) (rsP (l.take (k + 1))) = putP (rsP ys) (nthG l k).r := by rw [hrel, take_snocG hkl, rsP, rsP, rsP, List.map_append, behP, behP, List.foldl_append]; rfl
            replace S := S.rowToGl pz zs (e := 45) (sz := 6) (n := zs.length) (c := cz) (S.wd.facts (AllI zs) (by simp))
            rw [w64 ((k : Int) + 1) (by omega) (by omega), show (k : Int) + 1 = ((k + 1 : Nat) : Int) from rfl] at S
            rw [hdn] at hrel2 hzl
            refine ⟨k + 1, zs, pz, cz, S.uu, ⟨hkl, by simp at hzl; omega, ?_⟩, S.sub _ _, by omega⟩
            rw [hstep, ← hrel2]; simp
    · refine c_exit ?_; (iterate 2 (refine xte ?_)); refine xbe ?_; refine xtn ?_; refine c_seq ?_; refine c_region ?_; (iterate 2 (refine sq S ?_; clear S; intro a S)); refine wl_nil ?_; refine xtn ?_; refine c_ret ?_
      have hk2 : l.length ≤ k := by simp at h2; omega
      rw [List.take_of_length_le hk2] at hrel
      have hg : Stable M _ (GlF p0 ys) := S.laterFact (M := M) (by simp)
      exact end1 S (fun _ => ⟨ys, p0, c0, rfl, hg, hrel⟩)
end Go.Proofs.YtdakncgafdnjfaaGreat
namespace Go.Wk
open Go
section
variable {P : Program} {r : Option Nat} {ops : Array Oper} {Q : Exit → Act → World → Prop} {w0 : World} {M0 : Nat → Prop} {ds : List Deferred} {a : Act} {w : World} {l : List Value} {bs : List Item} {fs : List (World → Prop)}
  {d : Option Nat} {ty t tx e : TypeId} {pos : String} {af : Array Edge} {rest : List Oper} {x y : Operand} {by_ c sz m : Nat} {z : Value}
theorem sapG (ad : Addr) (n : Nat) (olds : List Value) {xv : Value} {news : List Value} {l' : Nat → Nat → List Value} (S : St w0 M0 ds a w l bs fs)
    [Ev ⟨[], l⟩ x (.slice (some ad) n c)] [Ev ⟨[], l⟩ y xv] [ht : Und P t (.slice e)] [hti : TI P e z sz by_] {zc : List Value} [hzc : Cells z zc] [hzl : LenIs zc sz] [hs : SrcV P tx xv bs fs sz m news]
    [hp : ∀ g c', PutO l d (.slice (some ⟨g, 0, none⟩) (n + m) c') (l' g c')] (hl : olds.length = n * sz) (hold : ∀ j u, olds[j]? = some u → w.cell? (ad.add j) = some u) (hg : c < n + m)
    (h63 : n + m ≤ maxLen) (hb : (n + m) * by_ ≤ 140737488355328)
    (K : ∀ g c' a w, St w0 M0 ds a w (l' g c') (row e sz (some ⟨g, 0, none⟩) (n + m) c' (olds ++ news) :: bs) fs → WL P r ops Q rest a w) :
    WL P r ops Q (⟨d, .call { callee := .builtin .append, args := #[x, y], argTypes := #[t, tx] }, ty, pos, af, none⟩ :: rest) a w := by
  refine wl_plain rfl ?_
  rw [semAt_nd rfl]
  obtain ⟨ii, hi, hz', hsize, hby⟩ := hti.ex
  subst hsize hby
  have hsrc := hs.src w S.wd.mem
  have hr := run_append_grow_src (P := P) w t tx ty e ii z ht.eq hi hz' (some ad) n c olds (by
    have := run_firstCells_some (P := P) w.drew ii.size n ad n c olds hl (fun j u hu => by simpa using hold j u hu)
    simpa using this) xv m news hsrc hg (by simp only [maxLen] at h63; omega) (growslice_fits hg hb)
  have hlen : (olds ++ news).length = (n + m) * ii.size := by rw [List.length_append, hl, hsrc.newsLen, Nat.add_mul]
  have hzs : z.cells.size = ii.size := by rw [← Array.length_toList, hzc.eq, hzl.eq]
  have hown : (w.drew.alloc (.cells ((olds ++ news).toArray ++ Builtin.zeroCells z.cells (grownCap w (n + m) c e - (n + m))) e)).ownsRow 0 e ii.size (.slice (some ⟨w.heap.size, 0, none⟩) (n + m) (grownCap w (n + m) c e)) (n + m) (olds ++ news) := by
    refine ⟨hlen, .inr ⟨w.heap.size, _, _, rfl, Nat.zero_le _, heap_alloc_new w.drew _, grownCap_ge _ _ _ _, grownCap_le_maxLen w (n + m) c e h63, ?_, ?_⟩⟩
    · have := grownCap_ge w (n + m) c e
      rw [Array.size_append, size_zeroCells, hzs, List.size_toArray, hlen, ← Nat.add_mul]
      congr 1; omega
    · rw [← hlen, Array.toList_append]
      exact List.take_left
  have hag : Agree (fun _ => False) w (w.drew.alloc (.cells ((olds ++ news).toArray ++ Builtin.zeroCells z.cells (grownCap w (n + m) c e - (n + m))) e)) := (Agree.drawn _ w _).trans (Agree.alloc _ w.drew _)
  generalize w.drew.alloc (.cells ((olds ++ news).toArray ++ Builtin.zeroCells z.cells (grownCap w (n + m) c e - (n + m))) e) = w' at hr hown hag
  generalize grownCap w (n + m) c e = c' at hr hown
  have e1 : (xop a.eval (.call { callee := .builtin .append, args := #[x, y], argTypes := #[t, tx] }) ty).run P w = .ok (.value (.slice (some ⟨w.heap.size, 0, none⟩) (n + m) c')) w' := by
    simp [xop, execOp, resolve, invoke, builtin, S.fr.ev (x := x) (v := .slice (some ad) n c), S.fr.ev (x := y) (v := xv), Sem.run_bind, hr]
  simp only [e1, Oper.uponIn]
  have := hp w.heap.size c'
  have S' := S.put (d := d) (v := .slice (some ⟨w.heap.size, 0, none⟩) (n + m) c')
  exact K w.heap.size c' _ w' ⟨S'.slots, S'.defers, S'.wd.addRow hag hown (fun ad h => by cases h; exact Nat.le_refl _)⟩
theorem scpB (b n m : Nat) {T : TypeId} {cs : List Value} (ys : List UInt8) {q : Option Addr} {cd cy : Nat} {bs' : List Item} {l' : List Value} (S : St w0 M0 ds a w l bs fs) [Ev ⟨[], l⟩ x (.slice (some ⟨b, 0, none⟩) n cd)] [Ev ⟨[], l⟩ y (.slice q m cy)] [ht : Und P t (.slice e)] [hti : TI P e z 1 by_] [HasBox bs b T cs]
    [hrep : ReplI bs (box b T cs) (box b T ((encL ys).take n ++ cs.drop m)) bs'] [hp : PutO l d (.int .i64 ((min m n : Nat) : Int)) l'] (hq : SlF q (encL ys) w) (hy : ys.length = m) (hc : cs.length = n) (K : ∀ a w, St w0 M0 ds a w l' bs' fs → WL P r ops Q rest a w) :
    WL P r ops Q (⟨d, .call { callee := .builtin .copy, args := #[x, y], argTypes := #[t, tx] }, ty, pos, af, none⟩ :: rest) a w := by
  refine wl_plain rfl ?_
  rw [semAt_nd rfl]
  have hb := S.box b
  have S' := S.put (d := d) (v := .int .i64 ((min m n : Nat) : Int)) (l' := l')
  have hel : (encL ys).length = m := by rw [encL_len, hy]; exact Nat.mul_one _
  have hnl : ((encL ys).take (min m n)).length = min m n := by rw [List.length_take, hel]; omega
  have hcells : (Builtin.firstCells 1 (min m n) (.slice q m cy)).run P w = .ok ((encL ys).take (min m n)).toArray w := by
    cases hqq : q with
    | none =>
      have h1 := hq.1 hqq
      have h2 : m = 0 := by rw [← hel, h1]; rfl
      subst h2
      rw [h1, Nat.zero_min]
      exact run_firstCells_none w 1 0 0 cy
    | some ad =>
      refine run_firstCells_some w 1 (min m n) ad m cy _ (by rw [hnl, Nat.mul_one]) (fun j u hj => hq.2 ad hqq j u ?_)
      rw [List.getElem?_take] at hj
      split at hj
      · exact hj
      · cases hj
  have hst := run_storeCells_at (P := P) b 0 T ((encL ys).take (min m n)) 0 cs.toArray w hb (by rw [hnl]; simp [hc]; omega) (fun u hu => encL_one ys u (List.mem_of_mem_take hu))
  have e0 : (cs.toArray.toList.take 0 ++ (encL ys).take (min m n) ++ cs.toArray.toList.drop (0 + ((encL ys).take (min m n)).length)) = (encL ys).take n ++ cs.drop m := by
    rw [hnl]
    rcases Nat.le_total m n with h | h
    · rw [Nat.min_eq_left h, List.take_of_length_le (by omega : (encL ys).length ≤ m), List.take_of_length_le (by omega : (encL ys).length ≤ n)]; simp
    · rw [Nat.min_eq_right h]; simp; omega
  simp only [Nat.zero_add] at hst e0
  rw [e0] at hst
  have hrun : (Builtin.copy_ #[t, tx] ty #[.slice (some ⟨b, 0, none⟩) n cd, .slice q m cy]).run P w = .ok (.int .i64 ((min m n : Nat) : Int)) (w.setRow b ((encL ys).take n ++ cs.drop m).toArray) := by
    have h1 : (storeCells ⟨b, 0, none⟩ ((encL ys).take (min m n))).run P w = .ok () (w.setRow b ((encL ys).take n ++ cs.drop m).toArray) := by simpa using hst
    have h2 : Nat.min m n = min m n := rfl
    simp [Builtin.copy_, Sem.run_bind, run_und, run_size, Builtin.lenOf, h2, hcells, h1, goInt]
  have e1 : (xop a.eval (.call { callee := .builtin .copy, args := #[x, y], argTypes := #[t, tx] }) ty).run P w = .ok (.value (.int .i64 ((min m n : Nat) : Int))) (w.setRow b ((encL ys).take n ++ cs.drop m).toArray) := by
    simp [xop, execOp, resolve, invoke, builtin, S.fr.ev (x := x) (v := .slice (some ⟨b, 0, none⟩) n cd), S.fr.ev (x := y) (v := .slice q m cy), Sem.run_bind, hrun]
  simp only [e1, Oper.uponIn]
  have hh : (box b T ((encL ys).take n ++ cs.drop m)).holds (w.setRow b ((encL ys).take n ++ cs.drop m).toArray) := setRow_heap w b cs.toArray _ T _ hb
  exact K _ _ (S.reput (x := box b T cs) (y := box b T ((encL ys).take n ++ cs.drop m)) S'.slots S'.defers rfl (Agree.setRow w b _ rfl) hh (fun k h => .inl h) (ItOk.lt _ hh) ItOk.loc)
end
theorem run_idx {P : Program} {ty t e : TypeId} {l : Cx} {x y : Operand} {n : Nat} {kk : IntKind} {z : Value} {by_ : Nat} {ρ : Operand → Value} (vs : List Value) (k : Nat) (v : Value) [Ev l x (.agg ⟨vs⟩)] [Ev l y (.int kk (k : Int))] [ht : Und P t (.array n e)] [hti : TI P e z 1 by_] [ha : AggT P e false] (hv : vs[k]? = some v) (hn : vs.length = n) (h : Fr ρ l) (w : World) :
    (xop ρ (.index t x y) ty).run P w = .ok (.value v) w := by
  have hlt : k < vs.length := (List.getElem?_eq_some_iff.1 hv).1
  have e2 : (⟨vs⟩ : Array Value)[k]? = some v := by simpa using hv
  have e3 : k < (⟨vs⟩ : Array Value).size := hlt
  simp [xop, execOp, h.ev (x := x) (v := .agg ⟨vs⟩), h.ev (x := y) (v := .int kk (k : Int)), Instr.index, asIntOf, Sem.run_bind, run_und, run_size, part, ha.run, e2]
  rw [if_pos (by rw [← hn]; exact hlt), hv]
  rfl
theorem run_eqItemsB {P : Program} (d : Nat) {e : TypeId} (he : P.underlying e = some (.int .u8)) [ha : AggT P e false] (w : World) (x y : List UInt8) : ∀ is : List Nat, (∀ i ∈ is, i < x.length ∧ i < y.length) →
    (Op.eqItems (d + 1) e 1 ⟨encL x⟩ ⟨encL y⟩ is).run P w = .ok (is.all fun i => decide (x[i]? = y[i]?)) w
  | [], _ => by simp [Op.eqItems]
  | i :: is, h => by
    have h0 := h i (List.mem_cons_self ..)
    have ih := run_eqItemsB d he w x y is (fun j hj => h j (List.mem_cons_of_mem _ hj))
    have ex : ∀ (z : List UInt8) (hz : i < z.length), (part e ⟨encL z⟩ (i * 1)).run P w = .ok (.int .u8 (z[i].toNat : Int)) w := fun z hz => by
      have h1 : (encL z)[i]? = some (.int .u8 (z[i].toNat : Int)) := by
        have h2 := encL_get z i z[i] (List.getElem?_eq_getElem hz) 0 (by decide)
        have h3 : i * Enc.sz UInt8 + 0 = i := Nat.mul_one i
        rw [h3] at h2
        rw [h2]; rfl
      have h2 : (⟨encL z⟩ : Array Value)[i]? = some (.int .u8 (z[i].toNat : Int)) := by simpa using h1
      have h3 : i < (encL z).length := (List.getElem?_eq_some_iff.1 h1).1
      simp [part, Sem.run_bind, ha.run, h2]
      done
    have eq : (Op.equalIn (d + 1) e (.int .u8 (x[i].toNat : Int)) (.int .u8 (y[i].toNat : Int))).run P w = .ok ((x[i].toNat : Int) == (y[i].toNat : Int)) w := run_equalIn_int w d e .u8 .u8 _ _ he
    have hb : ((x[i].toNat : Int) == (y[i].toNat : Int)) = decide (x[i]? = y[i]?) := by
      rw [List.getElem?_eq_getElem h0.1, List.getElem?_eq_getElem h0.2, Bool.eq_iff_iff]
      simp only [beq_iff_eq, decide_eq_true_eq, Option.some.injEq]
      exact ⟨fun h => UInt8.toNat.inj (Int.ofNat.inj h), fun h => by rw [h]⟩
    simp only [Op.eqItems, Sem.run_bind, ex x h0.1, ex y h0.2, eq, Result.andThen_ok, List.all_cons, hb]
    cases h5 : decide (x[i]? = y[i]?) with
    | false => simp
    | true => simp [ih]
theorem blk_len (u : Blk) : u.l.length = 64 := by
  have h := u.len
  rw [encL_len] at h
  exact (Nat.mul_one _).symm.trans h
class EqG (P : Program) (t : TypeId) : Prop where eq : P.eqGuardType P.depth t = false
theorem run_eqB {P : Program} (w : World) {t e : TypeId} {n by_ : Nat} {z : Value} (x y : List UInt8) (hu : P.underlying t = some (.array n e)) (he : P.underlying e = some (.int .u8)) [ha : AggT P e false] [hti : TI P e z 1 by_] (hx : x.length = n) (hy : y.length = n) :
    (Op.equalIn 10000 t (.agg ⟨encL x⟩) (.agg ⟨encL y⟩)).run P w = .ok (decide (x = y)) w := by
  obtain ⟨ii, hi, hz, hs, hb⟩ := hti.ex
  have hc : P.cellsOf e = 1 := by simp [Program.cellsOf, hi, hs]
  rw [show (10000 : Nat) = 9999 + 1 from rfl, run_equalIn_array w 9999 _ _ hu hi, hc, run_eqItemsB 9998 he w x y _ (fun i hi => by rw [List.mem_range] at hi; omega)]
  congr 1
  rw [Bool.eq_iff_iff, List.all_eq_true]
  simp only [List.mem_range, decide_eq_true_eq]
  exact ⟨fun h => List.ext_getElem? fun i => by
    rcases Nat.lt_or_ge i n with h1 | h1
    · exact h i h1
    · rw [List.getElem?_eq_none (by omega), List.getElem?_eq_none (by omega)], fun h i _ => by rw [h]⟩
instance opBlkEql {P : Program} {l : Cx} {bs : List Item} {fs : List (World → Prop)} {x y : Operand} {t t' ty e : TypeId} {u v : Blk} {z : Value} {by_ : Nat} [Ev l x (.agg ⟨encL u.l⟩)] [Ev l y (.agg ⟨encL v.l⟩)] [ht : Und P t (.array 64 e)] [he : Und P e (.int .u8)] [AggT P e false] [TI P e z 1 by_] [hg : EqG P t] :
    OpQ P (.binOp .eql t x y t') ty l bs fs (.bool (decide (u.l = v.l))) := ⟨fun ρ w h _ => by
  simp [xop, execOp, h.ev (x := x) (v := .agg ⟨encL u.l⟩), h.ev (x := y) (v := .agg ⟨encL v.l⟩), Sem.run_bind, run_eqGuard_agg w .eql t x y _ _ hg.eq, run_eql_struct, run_eqB w u.l v.l ht.eq he.eq (blk_len u) (blk_len v)]⟩
instance opBlkNeq {P : Program} {l : Cx} {bs : List Item} {fs : List (World → Prop)} {x y : Operand} {t t' ty e : TypeId} {u v : Blk} {z : Value} {by_ : Nat} [Ev l x (.agg ⟨encL u.l⟩)] [Ev l y (.agg ⟨encL v.l⟩)] [ht : Und P t (.array 64 e)] [he : Und P e (.int .u8)] [AggT P e false] [TI P e z 1 by_] [hg : EqG P t] :
    OpQ P (.binOp .neq t x y t') ty l bs fs (.bool (!decide (u.l = v.l))) := ⟨fun ρ w h _ => by
  simp [xop, execOp, h.ev (x := x) (v := .agg ⟨encL u.l⟩), h.ev (x := y) (v := .agg ⟨encL v.l⟩), Sem.run_bind, run_eqGuard_agg w .neq t x y _ _ hg.eq, run_neq_struct, run_eqB w u.l v.l ht.eq he.eq (blk_len u) (blk_len v)]⟩
instance nz48 : NZ 48 := ⟨by decide⟩
end Go.Wk
namespace Go.Proofs.YtdakncgafdnjfaaGreat
open Go Go.Wk
set_option synthInstance.maxSize 100000
set_option synthInstance.maxHeartbeats 400000
set_option maxRecDepth 100000
def blkOf (l : List UInt8) : Blk := if h : l.length = 64 then ⟨l, h⟩ else zB
theorem blkOf_l {l : List UInt8} (h : l.length = 64) : (blkOf l).l = l := by rw [blkOf, dif_pos h]
def sealF (bs : List UInt8) : Blk := blkOf ((shaF bs).drop 28 ++ bs)
theorem sealF_l {bs : List UInt8} (h : bs.length = 60) : (sealF bs).l = (shaF bs).drop 28 ++ bs := blkOf_l (by rw [List.length_append, List.length_drop, shaF_len, h])
theorem sealed_c (bs : List UInt8) (p : Option Addr) (c : Nat) (w0 : World) (hn : bs.length = 60) (hx : Stable (fun _ => False) w0 (SlF p (encL bs))) :
    Ret Tryz.prog 178 [.slice p 60 c] w0 (fun _ => False) fun r _ => r = vBlk (sealF bs) := by
  have hLN : LenN bs 60 := ⟨hn⟩
  have hsl := shaF_len bs
  have hS32 : LenN (shaF bs) 32 := ⟨hsl⟩
  have hlen : LenIs (encL (shaF bs)) 32 := ⟨by rw [encL_len, hsl]; rfl⟩
  have hle1 : LeC 28 32 := ⟨by omega⟩
  have hle2 : LeC 32 32 := ⟨by omega⟩
  have hsf : SetFront (encL (List.replicate 32 (0 : UInt8))) (encL (shaF bs)) (encL (shaF bs)) := ⟨by rw [encL_len, encL_len, hsl]; exact Nat.le_refl _, by rw [List.drop_of_length_le (by rw [encL_len, encL_len, hsl]; exact Nat.le_refl _), List.append_nil]⟩
  refine enter Tryz.func178 rfl rfl (Wd.begin (fs := [SlF p (encL bs)]) (by simpa using hx)) (fun a S => ?_)
  simp only [Tryz.ntmps178, List.length_cons, List.length_nil, Nat.reduceAdd, Nat.reduceSub, List.replicate_succ, List.replicate_zero, List.cons_append, List.nil_append] at S
  refine c_seq ?_; refine c_region ?_
  refine sa S ?_; clear S; intro b2 a w S
  refine wl_nil ?_; refine xtn ?_; refine c_seq ?_; refine c_region ?_; refine sq S ?_; clear S; intro a S
  refine sr S (sum_c bs p 60 c _ hn (by omega) ((S.fact (Φ := SlF p (encL bs)) (by simp)).less fun _ _ h => h.elim)) ?_; clear S; rintro _ a w rfl S
  refine sa S ?_; clear S; intro b3 a w S
  refine sw S ?_; clear S; intro a w S; refine wl_nil ?_; refine xtn ?_; refine c_seq ?_; refine c_region ?_; (iterate 2 (refine sq S ?_; clear S; intro a S))
  have hb := S.box b3
  refine sapG ⟨b3, 28, none⟩ 4 ((encL (shaF bs)).drop 28) S (by rw [List.length_drop, encL_len, hsl]; rfl) (fun j u hj => ?_) (by omega) (by simp only [maxLen]; omega) (by omega) ?_
  · rw [Addr.add_lit, cell_of_row _ b3 _ _ _ _ hb]
    rw [List.getElem?_drop] at hj
    simpa using hj
  clear S; intro g c' a w S
  rw [show (encL (shaF bs)).drop 28 = encL ((shaF bs).drop 28) from (encL_dropG (shaF bs) 28).symm, ← encL_append, ← sealF_l hn] at S
  have hrow := S.row (some ⟨g, 0, none⟩) (4 + 60)
  replace S := S.rowToGl (some ⟨g, 0, none⟩) (sealF bs).l (e := 5) (sz := 1) (n := 4 + 60) (c := c') (fun _ _ _ _ => trivial)
  replace S := S.add (Φ := BlkF ⟨g, 0, none⟩ (sealF bs)) ((S.mem.fact (GlF (some ⟨g, 0, none⟩) (sealF bs).l)).imp fun _ h j v hj => h.1.2 _ rfl j v hj)
  have hle3 : LeC 64 (4 + 60) := ⟨by omega⟩
  (iterate 2 (refine sq S ?_; clear S; intro a S)); refine sw S ?_; clear S; intro a w S; refine wl_nil ?_; refine xtn ?_; refine c_ret ?_
  refine end1 S (fun _ => ?_)
  rfl
theorem wu32 (n : Int) (h1 : 0 ≤ n) (h2 : n ≤ 4294967295) : IntKind.u32.wrap n = n := by
  unfold IntKind.wrap; simp only [IntKind.bits, IntKind.signed]; simp; omega
theorem slNil (M : Nat → Prop) (w : World) : Stable M w (SlF none (encL ([] : List UInt8))) := fun _ _ => ⟨fun _ => rfl, fun _ h => by cases h⟩
def safeS : List UInt8 := [83, 65, 70, 69, 72, 79, 85, 83, 69]
def titleB (turn n : Int) : List UInt8 := be 4 n ++ be 4 turn ++ safeS ++ List.replicate 43 0
theorem titleB_len (turn n : Int) : (titleB turn n).length = 60 := by simp [titleB, be_len, safeS]
def titleF (turn n : Int) : Blk := sealF (titleB turn n)
theorem title_c (turn n : Int) (ht : 0 ≤ turn ∧ turn ≤ 4294967295) (hn : 0 ≤ n ∧ n ≤ 4294967295) (w0 : World) : Ret Tryz.prog 176 [.int .u32 turn, .int .i64 n] w0 (fun _ => False) fun r _ => r = vBlk (titleF turn n) := by
  refine enter Tryz.func176 rfl rfl (Wd.start w0) (fun a S => ?_)
  simp only [Tryz.ntmps176, List.length_cons, List.length_nil, Nat.reduceAdd, Nat.reduceSub, List.replicate_succ, List.replicate_zero, List.cons_append, List.nil_append] at S
  refine c_seq ?_; refine c_region ?_
  refine sa S ?_; clear S; intro b4 a w S
  refine wl_nil ?_; refine xtn ?_; refine c_seq ?_; refine c_region ?_; (iterate 2 (refine sq S ?_; clear S; intro a S))
  rw [wu32 n (by omega) (by omega)] at S
  refine srn S (put32_c none 0 0 [] n _ rfl (by omega) hn.1 hn.2 (slNil _ _)) ?_; clear S; rintro _ a w ⟨g, rfl, hg, hown⟩ hS -
  have S := hS hown (fun ad h => by cases h; exact hg)
  clear hS
  rw [List.nil_append] at S
  refine sq S ?_; clear S; intro a S
  refine srn S (put32_c (some ⟨g, 0, none⟩) (0 + 4) (0 + 4) (be 4 n) turn _ (be_len _ _) (by omega) ht.1 ht.2 ((own_sl (S.row (some ⟨g, 0, none⟩) (0 + 4))).stable (fun _ _ h => h))) ?_; clear S; rintro _ a w ⟨g2, rfl, hg2, hown2⟩ hS -
  have S := hS hown2 (fun ad h => by cases h; exact hg2)
  clear hS
  refine sq S ?_; clear S; intro a S; refine wl_nil ?_; refine xtn ?_; refine c_seq ?_; refine c_region ?_; refine sq S ?_; clear S; intro a S
  refine sap S (by simp only [maxLen]; simp) (by simp) ?_; clear S; rintro p3 c3 a w - S
  refine sapz1 p3 (0 + 4 + 4 + 9) (m := 43) S (by omega) (by simp only [maxLen]; omega) (by omega) ?_; clear S; intro p4 c4 a w S
  rw [← encL_append] at S
  refine sr S (sealed_c (titleB turn n) p4 c4 _ (titleB_len turn n) ((own_sl (S.row p4 60)).stable (fun _ _ h => h))) ?_; clear S; rintro _ a w rfl S
  refine sw S ?_; clear S; intro a w S; refine wl_nil ?_; refine xtn ?_; refine c_ret ?_
  refine end1 S (fun _ => ?_)
  rfl
theorem encZ_drop (n m : Nat) : (encL (List.replicate n (0 : UInt8))).drop m = encL (List.replicate (n - m) (0 : UInt8)) := by
  have h := encL_dropG (List.replicate n (0 : UInt8)) m
  rw [List.drop_replicate, show m * Enc.sz UInt8 = m from Nat.mul_one m] at h
  exact h.symm
def secN (n : Nat) : Nat := if n = 0 then 1 else (n + 47) / 48
def pad48 (l : List UInt8) : List UInt8 := l.take 48 ++ List.replicate (48 - l.length) 0
theorem pad48_len (l : List UInt8) : (pad48 l).length = 48 := by simp [pad48]; omega
def leafB (turn number : Int) (n : Nat) (left : List UInt8) : List UInt8 := be 4 turn ++ be 4 number ++ be 2 (n : Int) ++ be 2 (left.length : Int) ++ pad48 left
theorem leafB_len (turn number : Int) (n : Nat) (left : List UInt8) : (leafB turn number n left).length = 60 := by simp [leafB, be_len, pad48_len]
def leafF (turn number : Int) (bs : List UInt8) (k : Nat) : Blk := sealF (leafB turn number bs.length (bs.drop (48 * k)))
def leavesF (turn number : Int) (bs : List UInt8) : List Blk := (List.range (secN bs.length)).map (leafF turn number bs)
theorem leavesF_len (turn number : Int) (bs : List UInt8) : (leavesF turn number bs).length = secN bs.length := by simp [leavesF]
def leavesV (g0 g1 g2 : Nat) : Value := .func (.func 177) #[] ⟨[.pointer (some ⟨g0, 0, none⟩), .pointer (some ⟨g1, 0, none⟩), .pointer (some ⟨g2, 0, none⟩)]⟩
theorem leaves_f (turn number : Int) (p : Option Addr) (n c : Nat) (w0 : World) : Ret Tryz.prog 82 [.int .u32 turn, .int .u32 number, .slice p n c] w0 (fun _ => False) fun v w' => ∃ g0 g1 g2, v = leavesV g0 g1 g2 ∧ (w0.heap.size ≤ g0 ∧ w0.heap.size ≤ g1 ∧ w0.heap.size ≤ g2) ∧ BoxF g0 25 [.slice p n c] w' ∧ BoxF g1 130 [.int .u32 turn] w' ∧ BoxF g2 130 [.int .u32 number] w' := by
  refine enter Tryz.func82 rfl rfl (Wd.start w0) (fun a S => ?_)
  simp only [Tryz.ntmps82, List.length_cons, List.length_nil, Nat.reduceAdd, Nat.reduceSub, List.replicate_succ, List.replicate_zero, List.cons_append, List.nil_append] at S
  refine c_seq ?_; refine c_region ?_
  refine sa S ?_; clear S; intro b3 a w S
  refine sa S ?_; clear S; intro b4 a w S
  refine sa S ?_; clear S; intro b5 a w S
  refine sq S ?_; clear S; intro a S; refine wl_nil ?_; refine xtn ?_; refine c_seq ?_; refine c_region ?_; (iterate 2 (refine sq S ?_; clear S; intro a S)); refine wl_nil ?_; refine xtn ?_; refine c_ret ?_
  have h3 := (S.boxNew b3).elim (fun h => h.elim) id
  have h4 := (S.boxNew b4).elim (fun h => h.elim) id
  have h5 := (S.boxNew b5).elim (fun h => h.elim) id
  have e3 := S.boxF b3
  have e4 := S.boxF b4
  have e5 := S.boxF b5
  exact end1 S (fun _ => ⟨b5, b3, b4, rfl, ⟨h5, h3, h4⟩, e5, e3, e4⟩)
theorem leaves_it (turn number : Int) (ht : 0 ≤ turn ∧ turn ≤ 4294967295) (hnu : 0 ≤ number ∧ number ≤ 4294967295) (g0 g1 g2 : Nat) (bs : List UInt8) (p : Option Addr) (c : Nat) (hl : bs.length ≤ 40000) (hc : bs.length ≤ c) (w0 : World) (M : Nat → Prop) (hM : ∀ k, M k → k < w0.heap.size) (f0 : Stable M w0 (BoxF g0 25 [.slice p bs.length c])) (f1 : Stable M w0 (BoxF g1 130 [.int .u32 turn])) (f2 : Stable M w0 (BoxF g2 130 [.int .u32 number])) (f3 : Stable M w0 (GlF p bs)) :
    IterRet Tryz.prog 177 [.pointer (some ⟨g0, 0, none⟩), .pointer (some ⟨g1, 0, none⟩), .pointer (some ⟨g2, 0, none⟩)] w0 M (fun (x : Blk) vs _ _ => vs = [vBlk x]) (leavesF turn number bs) := by
  intro L J Jx hy hJ
  have hF : ∀ Φ ∈ [GlF p bs, BoxF g0 25 [.slice p bs.length c], BoxF g1 130 [.int .u32 turn], BoxF g2 130 [.int .u32 number]], Stable M w0 Φ := by simp; exact ⟨f3, f0, f1, f2⟩
  have hs0 : 0 < secN bs.length := by unfold secN; split <;> omega
  refine (callsIn_wide (n := 0)).2 ?_
  refine enter Tryz.func177 rfl rfl (Wd.beginM (M := M) (fs := [GlF p bs, BoxF g0 25 [.slice p bs.length c], BoxF g1 130 [.int .u32 turn], BoxF g2 130 [.int .u32 number]]) hM hF) (fun a S => ?_)
  simp only [Tryz.ntmps177, List.length_cons, List.length_nil, Nat.reduceAdd, Nat.reduceSub, List.replicate_succ, List.replicate_zero, List.cons_append, List.nil_append] at S
  refine c_seq ?_; refine c_region ?_; (iterate 2 (refine sq S ?_; clear S; intro a S)); refine wl_nil ?_; refine xtn ?_; refine c_block ?_
  refine c_loop (ι := Nat × Option Addr × Nat) (fun ⟨k, q, e⟩ a w => (k < secN bs.length ∧ (bs.drop (48 * k)).length ≤ e ∧ Stable M w0 (GlF q (bs.drop (48 * k)))) ∧ ∃ N w1, J k w1 ∧ ∃ uu : Nat → Value,  St w1 (fun _ => False) [] a w ((.func (.yield L) #[] #[]) :: (.pointer (some ⟨g0, 0, none⟩)) :: (.pointer (some ⟨g1, 0, none⟩)) :: (.pointer (some ⟨g2, 0, none⟩)) :: uu 4 :: (.slice q (bs.drop (48 * k)).length e) :: uu 6 :: uu 7 :: uu 8 :: uu 9 :: uu 10 :: uu 11 :: uu 12 :: uu 13 :: uu 14 :: uu 15 :: uu 16 :: uu 17 :: uu 18 :: uu 19 :: uu 20 :: uu 21 :: uu 22 :: uu 23 :: uu 24 :: uu 25 :: uu 26 :: uu 27 :: uu 28 :: uu 29 :: uu 30 :: uu 31 :: uu 32 :: uu 33 :: uu 34 :: uu 35 :: uu 36 :: uu 37 :: uu 38 :: []) [ext N] [GlF q (bs.drop (48 * k)), BoxF g0 25 [.slice p bs.length c], BoxF g1 130 [.int .u32 turn], BoxF g2 130 [.int .u32 number]]) (fun x => secN bs.length - x.1) (0, p, c) ?_ ?_
  · exact ⟨⟨hs0, by simpa using hc, by simpa using f3⟩, M, w0, hJ, S.uu, by rw [show bs.drop (48 * 0) = bs from rfl]; exact S⟩
  · clear S
    rintro ⟨k, q, e⟩ a w ⟨⟨hk, hqe, hq⟩, N, w1, hJk, uu, S⟩
    have hdl : (bs.drop (48 * k)).length = bs.length - 48 * k := List.length_drop
    obtain ⟨left, hleft⟩ : ∃ left, left = bs.drop (48 * k) := ⟨_, rfl⟩
    rw [← hleft] at S hq hqe hdl
    have hll : left.length ≤ 40000 := by omega
    have hF2 : ∀ Φ ∈ [GlF q left, BoxF g0 25 [.slice p bs.length c], BoxF g1 130 [.int .u32 turn], BoxF g2 130 [.int .u32 number]], Stable M w0 Φ := by simp; exact ⟨hq, f0, f1, f2⟩
    have hx : (leavesF turn number bs)[k]? = some (sealF (leafB turn number bs.length left)) := by rw [leavesF, List.getElem?_map, List.getElem?_range hk, hleft]; rfl
    refine c_seq ?_; refine c_block ?_; refine c_seq ?_
    refine c_drawD [(0, true), (2, true), (1, false), (3, false), (4, true)] [] S ?_; clear S; intro w S
    (iterate 2 (refine dq S ?_; clear S; intro a S)); refine dl ?_
    refine srn S (put32_c none 0 0 [] turn _ rfl (by omega) ht.1 ht.2 (slNil _ _)) ?_; clear S; rintro _ a w ⟨g, rfl, hg, hown⟩ hS -
    have S := hS hown (fun ad h => by cases h; exact hg)
    clear hS
    rw [List.nil_append] at S
    refine de S ?_; refine dl ?_
    refine srn S (put32_c (some ⟨g, 0, none⟩) (0 + 4) (0 + 4) (be 4 turn) number _ (be_len _ _) (by omega) hnu.1 hnu.2 ((own_sl (S.row (some ⟨g, 0, none⟩) (0 + 4))).stable (fun _ _ h => h))) ?_; clear S; rintro _ a w ⟨ga, rfl, hga, hown2⟩ hS -
    have S := hS hown2 (fun ad h => by cases h; exact hga)
    clear hS
    refine de S ?_; refine dq S ?_; clear S; intro a S; refine dn ?_; refine xtn ?_; refine c_seq ?_; refine c_region ?_; (iterate 4 (refine sq S ?_; clear S; intro a S))
    rw [wu16 (bs.length : Int) (by omega) (by omega)] at S
    refine srn S (put16b_c (some ⟨ga, 0, none⟩) (0 + 4 + 4) (0 + 4 + 4) (be 4 turn ++ be 4 number) (bs.length : Int) _ (by simp [be_len]) (by omega) (by omega) (by omega) ((own_sl (S.row (some ⟨ga, 0, none⟩) (0 + 4 + 4))).stable (fun _ _ h => h))) ?_; clear S; rintro _ a w ⟨gb, rfl, hgb, hown3⟩ hS -
    have S := hS hown3 (fun ad h => by cases h; exact hgb)
    clear hS
    (iterate 3 (refine sq S ?_; clear S; intro a S))
    rw [wu16 (left.length : Int) (by omega) (by omega)] at S
    refine srn S (put16b_c (some ⟨gb, 0, none⟩) (0 + 4 + 4 + 2) (0 + 4 + 4 + 2) (be 4 turn ++ be 4 number ++ be 2 (bs.length : Int)) (left.length : Int) _ (by simp [be_len]) (by omega) (by omega) (by omega) ((own_sl (S.row (some ⟨gb, 0, none⟩) (0 + 4 + 4 + 2))).stable (fun _ _ h => h))) ?_; clear S; rintro _ a w ⟨gc, rfl, hgc, hown4⟩ hS -
    have S := hS hown4 (fun ad h => by cases h; exact hgc)
    clear hS
    refine sq S ?_; clear S; intro a S; refine wl_nil ?_; refine xtn ?_; refine c_seq ?_; refine c_region ?_
    refine sa S ?_; clear S; intro b7 a w S
    refine wl_nil ?_; refine xtn ?_; refine c_seq ?_; refine c_region ?_; (iterate 2 (refine sq S ?_; clear S; intro a S))
    refine scpB b7 48 left.length left S ((S.fact (Φ := GlF q left) (by simp)).now.1) rfl (by rw [encL_len, List.length_replicate]; rfl) ?_; clear S; intro a w S
    rw [show (encL left).take 48 = encL (left.take 48) from encL_take left 48, encZ_drop, ← encL_append, show left.take 48 ++ List.replicate (48 - left.length) 0 = pad48 left from rfl] at S
    have hp48 : LenIs (encL (pad48 left)) 48 := ⟨by rw [encL_len, pad48_len]; rfl⟩
    refine wl_nil ?_; refine xtn ?_; refine c_seq ?_; refine c_region ?_; (iterate 3 (refine sq S ?_; clear S; intro a S))
    rw [show (Value.slice (some (if (48 : Nat) = 0 then (⟨b7, 0, none⟩ : Addr) else ⟨b7, 0 * 1, none⟩)) (48 - 0) (48 - 0)) = .slice (some ⟨b7, 0, none⟩) 48 48 from rfl] at S
    refine sap S (by simp only [maxLen]; simp) (by simp) ?_; clear S; rintro p3 c3 a w - S
    rw [← encL_append] at S
    refine sr S (sealed_c (leafB turn number bs.length left) p3 c3 _ (leafB_len _ _ _ _) ((own_sl (S.row p3 60)).stable (fun _ _ h => h))) ?_; clear S; rintro _ a w rfl S
    refine sy S (M := M) (wI := w0) (fs0 := [GlF q left, BoxF g0 25 [.slice p bs.length c], BoxF g1 130 [.int .u32 turn], BoxF g2 130 [.int .u32 number]]) hF2 (hy _ _ _ w1 _ hx hJk S.wd.agree rfl) ?_; clear S; intro ok N' a w2 hT hX S
    (iterate 2 (refine sq S ?_; clear S; intro a S)); (iterate 3 (refine gQ S ?_; clear S; intro a S)); refine sq S ?_; clear S; intro a S; refine wl_nil ?_; refine xtn ?_
    refine c_cond S (fun h6 => ?_) (fun h6 => ?_)
    · refine c_ret ?_; refine xbr ?_; (iterate 2 (refine xtr ?_)); refine xbr ?_
      refine endI S ⟨w2, S.wd.agree, ?_⟩
      cases ok with
      | false => exact .inr (hX rfl)
      | true =>
        have h48 : left.length ≤ 48 := by have := h6; simp at this; omega
        have e1 : k + 1 = (leavesF turn number bs).length := by rw [leavesF_len]; unfold secN at hk ⊢; split at hk <;> split <;> omega
        rw [← e1]; exact .inl (hT rfl)
    · refine c_skip ?_; refine xbn ?_; refine xtn ?_
      obtain ⟨rfl, h48⟩ : ok = true ∧ 48 < left.length := by
        cases ok with
        | false => exact absurd h6 (by simp)
        | true => exact ⟨rfl, by have := h6; simp at this; omega⟩
      have hLa : LeC 48 left.length := ⟨by omega⟩
      have hLb : LeC left.length e := ⟨hqe⟩
      have hLc : LeC 48 e := ⟨by omega⟩
      refine c_region ?_; (iterate 3 (refine sq S ?_; clear S; intro a S)); refine wl_nil ?_; refine xtn ?_
      have edd : left.drop 48 = bs.drop (48 * (k + 1)) := by rw [hleft, List.drop_drop]; congr 1
      obtain ⟨q', hq'⟩ : ∃ q', q' = (if e = 48 then q else q.map (·.add (48 * 1))) := ⟨_, rfl⟩
      rw [← hq'] at S
      have hdr : ∀ w, GlF q left w → GlF q' (bs.drop (48 * (k + 1))) w := fun w h => by rw [← edd, hq']; exact h.drop 48 hqe
      replace S := S.add (Φ := GlF q' (bs.drop (48 * (k + 1)))) ((S.mem.fact (GlF q left)).imp hdr)
      rw [show left.length - 48 = (bs.drop (48 * (k + 1))).length from by rw [← edd, List.length_drop]] at S
      exact ⟨(k + 1, q', e - 48), ⟨⟨by unfold secN at hk ⊢; split at hk <;> split <;> omega, by rw [← edd, List.length_drop]; omega, hq.imp hdr⟩, N', w2, hT rfl, S.uu, S.sub _ _⟩, by show secN bs.length - (k + 1) < secN bs.length - k; omega⟩
def onlyV (g0 g1 : Nat) : Value := .func (.func 173) #[] ⟨[.pointer (some ⟨g0, 0, none⟩), .pointer (some ⟨g1, 0, none⟩)]⟩
theorem only_f (x : Blk) (n : Nat) (w0 : World) : Ret Tryz.prog 75 [vBlk x, .int .i64 (n : Int)] w0 (fun _ => False) fun v w' => ∃ g0 g1, v = onlyV g0 g1 ∧ (w0.heap.size ≤ g0 ∧ w0.heap.size ≤ g1) ∧ BoxF g0 3 [.int .i64 (n : Int)] w' ∧ BoxF g1 129 (encL x.l) w' := by
  refine enter Tryz.func75 rfl rfl (Wd.start w0) (fun a S => ?_)
  simp only [Tryz.ntmps75, List.length_cons, List.length_nil, Nat.reduceAdd, Nat.reduceSub, List.replicate_succ, List.replicate_zero, List.cons_append, List.nil_append] at S
  refine c_seq ?_; refine c_region ?_
  refine sa S ?_; clear S; intro b2 a w S
  refine sa S ?_; clear S; intro b3 a w S
  refine sq S ?_; clear S; intro a S; refine wl_nil ?_; refine xtn ?_; refine c_seq ?_; refine c_region ?_; (iterate 2 (refine sq S ?_; clear S; intro a S)); refine wl_nil ?_; refine xtn ?_; refine c_ret ?_
  have h2 := (S.boxNew b2).elim (fun h => h.elim) id
  have h3 := (S.boxNew b3).elim (fun h => h.elim) id
  have e2 := S.boxF b2
  have e3 := S.boxF b3
  exact end1 S (fun _ => ⟨b3, b2, rfl, ⟨h3, h2⟩, e3, e2⟩)
theorem only_it (g0 g1 : Nat) (x : Blk) (n : Nat) (hn : n ≤ 1000000) (w0 : World) (M : Nat → Prop) (hM : ∀ k, M k → k < w0.heap.size) (f0 : Stable M w0 (BoxF g0 3 [.int .i64 (n : Int)])) (f1 : Stable M w0 (BoxF g1 129 (encL x.l))) :
    IterRet Tryz.prog 173 [.pointer (some ⟨g0, 0, none⟩), .pointer (some ⟨g1, 0, none⟩)] w0 M (fun (x : Blk) vs _ _ => vs = [vBlk x]) (List.replicate n x) := by
  intro L J Jx hy hJ
  have hF : ∀ Φ ∈ [BoxF g0 3 [.int .i64 (n : Int)], BoxF g1 129 (encL x.l)], Stable M w0 Φ := by simp; exact ⟨f0, f1⟩
  refine (callsIn_wide (n := 0)).2 ?_
  refine enter Tryz.func173 rfl rfl (Wd.beginM (M := M) (fs := [BoxF g0 3 [.int .i64 (n : Int)], BoxF g1 129 (encL x.l)]) hM hF) (fun a S => ?_)
  simp only [Tryz.ntmps173, List.length_cons, List.length_nil, Nat.reduceAdd, Nat.reduceSub, List.replicate_succ, List.replicate_zero, List.cons_append, List.nil_append] at S
  refine c_seq ?_; refine c_region ?_; (iterate 2 (refine sq S ?_; clear S; intro a S)); refine wl_nil ?_; refine xtn ?_; refine c_block ?_
  refine c_loop (ι := Nat) (fun k a w => k ≤ n ∧ ∃ N w1, J k w1 ∧ ∃ uu : Nat → Value,  St w1 (fun _ => False) [] a w ((.func (.yield L) #[] #[]) :: (.pointer (some ⟨g0, 0, none⟩)) :: (.pointer (some ⟨g1, 0, none⟩)) :: uu 3 :: (.int .i64 (n : Nat)) :: (.int .i64 (k : Nat)) :: uu 6 :: uu 7 :: uu 8 :: uu 9 :: uu 10 :: uu 11 :: []) [ext N] [BoxF g0 3 [.int .i64 (n : Int)], BoxF g1 129 (encL x.l)]) (fun k => n - k) 0 ?_ ?_
  · exact ⟨Nat.zero_le _, M, w0, hJ, S.uu, S⟩
  · clear S
    rintro k a w ⟨hk, N, w1, hJk, uu, S⟩
    refine c_seq ?_; refine c_region ?_; refine sq S ?_; clear S; intro a S; refine wl_nil ?_; refine xtn ?_; refine c_seq ?_
    refine c_cond S (fun h1 => ?_) (fun h1 => ?_)
    · refine c_skip ?_; refine xtn ?_; refine c_seq ?_; refine c_block ?_; refine c_seq ?_
      have hkn : k < n := by have := of_decide_eq_true h1; omega
      have hx : (List.replicate n x)[k]? = some x := by rw [List.getElem?_replicate, if_pos hkn]
      refine c_region ?_; (iterate 2 (refine sq S ?_; clear S; intro a S))
      refine sy S (M := M) (wI := w0) (fs0 := [BoxF g0 3 [.int .i64 (n : Int)], BoxF g1 129 (encL x.l)]) hF (hy _ _ _ w1 _ hx hJk S.wd.agree rfl) ?_; clear S; intro ok N' a w2 hT hX S
      refine sq S ?_; clear S; intro a S; refine wl_nil ?_; refine xtn ?_
      refine c_cond S (fun h2 => ?_) (fun h2 => ?_)
      · refine c_ret ?_; refine xbr ?_; (iterate 2 (refine xtr ?_)); refine xbr ?_
        exact endI S ⟨w2, S.wd.agree, .inr (hX (by simpa using h2))⟩
      · refine c_skip ?_; refine xbn ?_; refine xtn ?_; refine c_region ?_; (iterate 2 (refine sq S ?_; clear S; intro a S)); refine wl_nil ?_; refine xtn ?_
        rw [w64 ((k : Int) + 1) (by omega) (by omega)] at S
        exact ⟨k + 1, ⟨by omega, N', w2, hT (by simpa using h2), S.uu, S⟩, by omega⟩
    · refine c_exit ?_; (iterate 2 (refine xte ?_)); refine xbe ?_
      have hkn : k = n := by have := of_decide_eq_false h1; omega
      refine endI S ⟨w1, S.wd.agree, .inl ?_⟩
      rw [List.length_replicate, ← hkn]; exact hJk
def layW (s : DS) (k : Int) : List Blk → DS × Int
  | [] => (s, 0)
  | x :: xs => if askE s k true = 0 then layW (wrD s k x) (k + 1) xs else (wrD s k x, askE s k true)
def layF (s : DS) (k : Int) (xs : List Blk) : DS × Int := if (layW s k xs).2 = 0 then (syD (layW s k xs).1, askE (layW s k xs).1 0 true) else layW s k xs
theorem wrD_loose (s : DS) (k : Int) (x : Blk) : (wrD s k x).loose.length ≤ s.loose.length + 1 := by
  have h : (askD s k true).loose = s.loose := by
    unfold askD; split
    · rfl
    · split
      · rfl
      · split
        · rfl
        · split <;> (try split) <;> rfl
  unfold wrD askedD
  split
  · simp [opD, writeD, h]
  · rw [h]; omega
theorem lay_c (G : Nat) [EntF Tryz.prog G] (lb : List Value) (xs : List Blk) (b m : Nat) (p : Option Addr) (c : Nat) (s : DS) (at_ : Nat) (fs : List (World → Prop)) (w0 : World) (hl : s.loose.length + xs.length ≤ 1000000) (ha : at_ + xs.length ≤ 1000000) (hd : (dkI b m p c s).holds w0) (hf : ∀ Φ ∈ fs, Stable (dkI b m p c s).foot w0 Φ)
    (hit : ∀ (M : Nat → Prop) (w1 : World), (∀ k, M k → k < w1.heap.size) → (∀ Φ ∈ fs, Stable M w1 Φ) → IterRet Tryz.prog G lb w1 M (fun (x : Blk) vs _ _ => vs = [vBlk x]) xs) :
    Ret Tryz.prog 74 [.pointer (some ⟨b, 0, none⟩), .int .i64 (at_ : Int), .func (.func G) #[] ⟨lb⟩] w0 (dkI b m p c s).foot fun v w' => v = .int .i64 (layF s at_ xs).2 ∧ ∃ p' c', (dkI b m p' c' (layF s at_ xs).1).holds w' ∧ ∀ i, (dkI b m p' c' (layF s at_ xs).1).foot i → (dkI b m p c s).foot i ∨ w0.heap.size ≤ i := by
  have hxl : ∀ i x, xs[i]? = some x → i < xs.length := fun i x h => (List.getElem?_eq_some_iff.1 h).1
  refine enterM Tryz.func74 rfl rfl (Wd.itLent (x := dkI b m p c s) (fs := fs) hd hf) (fun a S => ?_)
  simp only [Tryz.ntmps74, List.length_cons, List.length_nil, Nat.reduceAdd, Nat.reduceSub, List.replicate_succ, List.replicate_zero, List.cons_append, List.nil_append] at S
  refine c_seq ?_; refine c_region ?_
  refine sa S ?_; clear S; intro b3 a w S
  refine sa S ?_; clear S; intro b4 a w S
  refine sa S ?_; clear S; intro b6 a w S
  refine wl_nil ?_; refine xtn ?_; (iterate 2 (refine c_seq ?_)); refine c_region ?_; refine sq S ?_; clear S; intro a S; refine wl_nil ?_; refine xtn ?_; refine c_block ?_
  replace S := S.boxToF b3
  refine c_range (κ := DS × Option Addr × Nat) (κx := DS × Option Addr × Nat × Int) (Ds := []) xs
    (fun i k => [Wk.box b6 26 [.int .i64 0], Wk.box b4 3 [.int .i64 ((at_ + i : Nat) : Int)], marks [], dkI b m k.2.1 k.2.2 k.1])
    (fun _ _ => BoxF b3 34 [.pointer (some ⟨b, 0, none⟩)] :: fs)
    (fun i k => layW s at_ xs = layW k.1 ((at_ + i : Nat) : Int) (xs.drop i) ∧ k.1.loose.length ≤ s.loose.length + i)
    (fun k => [Wk.box b6 26 [.int .i64 k.2.2.2], marks [], dkI b m k.2.1 k.2.2.1 k.1])
    (fun _ => BoxF b3 34 [.pointer (some ⟨b, 0, none⟩)] :: fs)
    (fun cd k => cd = .ret ∧ k.2.2.2 ≠ 0 ∧ layW s at_ xs = (k.1, k.2.2.2)) (s, p, c) S
    (fun M w1 hM hF _ => hit M w1 hM (fun Φ h => hF Φ (by simp [h]))) ⟨⟨by simp, by simp⟩, rfl, rfl⟩ ?_ ?_ ?_ ?_
  · clear S
    rintro L D bL M' w1 i x vs ⟨s1, p1, c1⟩ W0 w hx ⟨hlw, hll⟩ hW0 hgr rfl
    have hi := hxl i x hx
    simp only [] at hlw hll
    have hdr : xs.drop i = x :: xs.drop (i + 1) := by rw [List.drop_eq_getElem_cons hi, (List.getElem?_eq_some_iff.1 hx).2]
    rw [hdr, layW] at hlw
    refine ⟨_, inferInstance, fun a S => ?_⟩
    simp only [] at S
    refine c_region ?_
    refine sa S ?_; clear S; intro b7 a w S
    refine sw S ?_; clear S; intro a w S; refine wl_nil ?_; refine xtn ?_
    refine rbegin (D := D) (b := bL) S ?_; clear S; intro a w S
    refine c_block ?_; (iterate 2 (refine c_seq ?_)); refine c_region ?_; (iterate 3 (refine sq S ?_; clear S; intro a S))
    refine sit (dkI b m p1 c1 s1) S (dwrite_c b m p1 c1 s1 ((at_ + i : Nat) : Int) x _ (by omega) (S.it (dkI b m p1 c1 s1))) rfl ?_; clear S; rintro _ a w ⟨rfl, p2, c2, hh, hn⟩ hS
    have S := hS (dkI b m p2 c2 (wrD s1 ((at_ + i : Nat) : Int) x)) hh hn
    clear hS
    refine sq S ?_; clear S; intro a S; refine wl_nil ?_; refine xtn ?_; refine c_seq ?_; refine c_region ?_; (iterate 2 (refine sq S ?_; clear S; intro a S)); refine wl_nil ?_; refine xtn ?_
    refine c_cond S (fun h4 => ?_) (fun h4 => ?_)
    · refine c_seq ?_; refine c_region ?_; refine sq S ?_; clear S; intro a S; refine sw S ?_; clear S; intro a w S; refine wl_nil ?_; refine xtn ?_; refine c_ret ?_; refine xtr ?_; refine xbr ?_
      have he : askE s1 ((at_ + i : Nat) : Int) true ≠ 0 := by simpa using h4
      rw [if_neg he] at hlw
      replace S := S.sub [lpI L D (lpR bL .busy none), Wk.box b6 26 [.int .i64 (askE s1 ((at_ + i : Nat) : Int) true)], marks [], dkI b m p2 c2 (wrD s1 ((at_ + i : Nat) : Int) x)] (BoxF b3 34 [.pointer (some ⟨b, 0, none⟩)] :: fs)
      refine rret (D := D) (b := bL) S fun W hW => ⟨.inl rfl, (wrD s1 ((at_ + i : Nat) : Int) x, p2, c2, askE s1 ((at_ + i : Nat) : Int) true), ⟨rfl, he, hlw⟩, hW⟩
    · refine c_skip ?_; refine xtn ?_; refine c_region ?_; (iterate 2 (refine sq S ?_; clear S; intro a S))
      rw [show IntKind.i64.wrap (((at_ + i : Nat) : Int) + 1) = ((at_ + (i + 1) : Nat) : Int) from by rw [w64 _ (by omega) (by omega)]; rfl] at S
      refine sw S ?_; clear S; intro a w S; refine wl_nil ?_; refine xbn ?_
      have he : askE s1 ((at_ + i : Nat) : Int) true = 0 := by simpa using h4
      rw [if_pos he] at hlw
      replace S := S.sub [lpI L D (lpR bL .busy none), Wk.box b6 26 [.int .i64 0], Wk.box b4 3 [.int .i64 ((at_ + (i + 1) : Nat) : Int)], marks [], dkI b m p2 c2 (wrD s1 ((at_ + i : Nat) : Int) x)] (BoxF b3 34 [.pointer (some ⟨b, 0, none⟩)] :: fs)
      have := wrD_loose s1 ((at_ + i : Nat) : Int) x
      refine rnext (D := D) (b := bL) S fun W hW => ⟨(wrD s1 ((at_ + i : Nat) : Int) x, p2, c2), ⟨by rw [hlw]; congr 1, by show (wrD s1 ((at_ + i : Nat) : Int) x).loose.length ≤ _; omega⟩, hW⟩
  · clear S
    rintro D ⟨s1, p1, c1⟩ a w ⟨hlw, hll⟩ S
    simp only [List.drop_length, layW] at hlw hll S
    replace S := S.join (Ds := [])
    refine xbn ?_; refine xtn ?_; refine c_seq ?_; refine c_region ?_; refine sq S ?_; clear S; intro a S
    refine sit (dkI b m p1 c1 s1) S (dsync_c b m p1 c1 s1 _ (by omega) (S.it (dkI b m p1 c1 s1))) rfl ?_; clear S; rintro _ a w ⟨rfl, p2, c2, hh, hn⟩ hS
    have S := hS (dkI b m p2 c2 (syD s1)) hh hn
    clear hS
    refine sw S ?_; clear S; intro a w S; refine wl_nil ?_; refine xtn ?_; refine c_ret ?_
    refine endM1 S (fun w hw => ?_)
    have e2 : layF s at_ xs = (syD s1, askE s1 0 true) := by rw [layF, hlw, if_pos rfl]
    rw [e2]
    exact ⟨rfl, p2, c2, hw.held (dkI b m p2 c2 (syD s1)) (by simp), hw.own (dkI b m p2 c2 (syD s1)) (by simp) rfl⟩
  · rintro D ⟨s1, p1, c1, e1⟩ a w ⟨-, he, hlw⟩ S
    simp only [] at S he hlw
    replace S := S.join (Ds := [])
    repeat (first | refine xbr ?_ | refine xtr ?_)
    refine endM1 S (fun w hw => ?_)
    have e2 : layF s at_ xs = (s1, e1) := by rw [layF, hlw, if_neg he]
    rw [e2]
    exact ⟨rfl, p1, c1, hw.held (dkI b m p1 c1 s1) (by simp), hw.own (dkI b m p1 c1 s1) (by simp) rfl⟩
  · rintro id D _ a w ⟨h, -⟩; cases h
def secF (n : Int) : Int := if n < 0 ∨ 40000 < n then 0 else (secN n.toNat : Int)
theorem sectors_c (n : Int) (w0 : World) : Ret Tryz.prog 78 [.int .i64 n] w0 (fun _ => False) fun v _ => v = .int .i64 (secF n) := by
  refine enter Tryz.func78 rfl rfl (Wd.start w0) (fun a S => ?_)
  simp only [Tryz.ntmps78, List.length_cons, List.length_nil, Nat.reduceAdd, Nat.reduceSub, List.replicate_succ, List.replicate_zero, List.cons_append, List.nil_append] at S
  refine c_seq ?_; refine c_region ?_; refine sq S ?_; clear S; intro a S; refine wl_nil ?_; refine xtn ?_; refine c_seq ?_; refine c_block ?_; refine c_seq ?_; refine c_region ?_; (iterate 3 (refine sq S ?_; clear S; intro a S)); (iterate 2 (refine gQ S ?_; clear S; intro a S)); (iterate 2 (refine sq S ?_; clear S; intro a S)); refine wl_nil ?_; refine xtn ?_
  refine c_cond S (fun h1 => ?_) (fun h1 => ?_)
  · refine c_seq ?_; refine c_region ?_; refine sq S ?_; clear S; intro a S; refine wl_nil ?_; refine xtn ?_; refine c_ret ?_; refine xbr ?_; refine xtr ?_
    have h : n < 0 ∨ 40000 < n := by simpa using h1
    refine end1 S (fun _ => ?_)
    rw [secF, if_pos h]
  · refine c_seq ?_; refine c_region ?_; (iterate 3 (refine sq S ?_; clear S; intro a S)); refine wl_nil ?_; refine xtn ?_
    refine c_cond S (fun h3 => ?_) (fun h3 => ?_)
    · refine c_seq ?_; refine c_region ?_; refine sq S ?_; clear S; intro a S; refine wl_nil ?_; refine xtn ?_; refine c_ret ?_; refine xbr ?_; refine xtr ?_
      have h : n = 0 := by simpa using h3
      subst h
      refine end1 S (fun _ => ?_)
      rfl
    · refine c_skip ?_; refine xbn ?_; refine xtn ?_; refine c_seq ?_; refine c_region ?_; (iterate 5 (refine sq S ?_; clear S; intro a S)); refine wl_nil ?_; refine xtn ?_; refine c_ret ?_
      have hn : ¬ (n < 0 ∨ 40000 < n) := by simpa using h1
      have h0 : n ≠ 0 := by simpa using h3
      refine end1 S (fun _ => ?_)
      rw [w64 (n + 48) (by omega) (by omega), w64 (n + 48 - 1) (by omega) (by omega), Int.tdiv_eq_ediv_of_nonneg (by omega), w64 _ (by omega) (by omega)]
      rw [secF, if_neg hn, secN, if_neg (by omega)]
      congr 1; omega
def mayF (s : DS) (n : Int) : Bool := decide (4 ≤ n ∧ n ≤ 1000 ∧ 2 * n + 2 ≤ s.size)
theorem may_no (b m : Nat) (p : Option Addr) (c k : Nat) (s : DS) (n : Int) (hn : ¬ (4 ≤ n ∧ n ≤ 1000)) (w0 : World) (hb : Stable (fun _ => False) w0 (BoxF b 170 (cDisk m p k c s))) : Ret Tryz.prog 73 [.pointer (some ⟨b, 0, none⟩), .int .i64 n] w0 (fun _ => False) fun v _ => v = .bool (mayF s n) := by
  refine enter Tryz.func73 rfl rfl (Wd.begin (fs := [BoxF b 170 (cDisk m p k c s)]) (by simpa using hb)) (fun a S => ?_)
  simp only [Tryz.ntmps73, List.length_cons, List.length_nil, Nat.reduceAdd, Nat.reduceSub, List.replicate_succ, List.replicate_zero, List.cons_append, List.nil_append] at S
  refine c_seq ?_; refine c_region ?_; refine sq S ?_; clear S; intro a S; refine wl_nil ?_; refine xtn ?_; refine c_seq ?_; refine c_region ?_; (iterate 3 (refine sq S ?_; clear S; intro a S)); (iterate 2 (refine gQ S ?_; clear S; intro a S)); refine sq S ?_; clear S; intro a S
  rw [show (decide (4 ≤ n) && decide (n ≤ 1000)) = false from by simp; omega] at S
  refine sq S ?_; clear S; intro a S; (iterate 6 (refine gF S ?_; clear S; intro a S)); (iterate 2 (refine sq S ?_; clear S; intro a S)); refine wl_nil ?_; refine xtn ?_; refine c_ret ?_
  refine end1 S (fun _ => ?_)
  rw [show mayF s n = false from by simp [mayF]; omega]
theorem may_yes (b m : Nat) (p : Option Addr) (c k : Nat) (s : DS) (n : Int) (hn : 4 ≤ n ∧ n ≤ 1000) (w0 : World) (hb : Stable (fun _ => False) w0 (BoxF b 170 (cDisk m p k c s))) : Ret Tryz.prog 73 [.pointer (some ⟨b, 0, none⟩), .int .i64 n] w0 (fun _ => False) fun v _ => v = .bool (mayF s n) := by
  refine enter Tryz.func73 rfl rfl (Wd.begin (fs := [BoxF b 170 (cDisk m p k c s)]) (by simpa using hb)) (fun a S => ?_)
  simp only [Tryz.ntmps73, List.length_cons, List.length_nil, Nat.reduceAdd, Nat.reduceSub, List.replicate_succ, List.replicate_zero, List.cons_append, List.nil_append] at S
  refine c_seq ?_; refine c_region ?_; refine sq S ?_; clear S; intro a S; refine wl_nil ?_; refine xtn ?_; refine c_seq ?_; refine c_region ?_; (iterate 3 (refine sq S ?_; clear S; intro a S)); (iterate 2 (refine gQ S ?_; clear S; intro a S)); refine sq S ?_; clear S; intro a S
  rw [show (decide (4 ≤ n) && decide (n ≤ 1000)) = true from by simp; omega] at S
  refine sq S ?_; clear S; intro a S; refine gT S ?_; refine sq S ?_; clear S; intro a S; refine gT S ?_
  refine sr S (len_c b m p k c s _ ((S.fact (Φ := BoxF b 170 (cDisk m p k c s)) (by simp)).less fun _ _ h => h.elim)) ?_; clear S; rintro _ a w rfl S
  refine gT S ?_; refine sq S ?_; clear S; intro a S; refine gT S ?_; refine sq S ?_; clear S; intro a S; refine gT S ?_; refine sq S ?_; clear S; intro a S; refine gT S ?_; (iterate 3 (refine sq S ?_; clear S; intro a S)); refine wl_nil ?_; refine xtn ?_; refine c_ret ?_
  refine end1 S (fun _ => ?_)
  rw [w64 (2 * n) (by omega) (by omega), w64 (2 * n + 2) (by omega) (by omega)]
  rw [mayF, decide_eq_decide.2 (show (4 ≤ n ∧ n ≤ 1000 ∧ 2 * n + 2 ≤ s.size) ↔ 2 * n + 2 ≤ s.size from ⟨fun h => h.2.2, fun h => ⟨hn.1, hn.2, h⟩⟩)]
theorem may_c (b m : Nat) (p : Option Addr) (c k : Nat) (s : DS) (n : Int) (w0 : World) (hb : Stable (fun _ => False) w0 (BoxF b 170 (cDisk m p k c s))) : Ret Tryz.prog 73 [.pointer (some ⟨b, 0, none⟩), .int .i64 n] w0 (fun _ => False) fun v _ => v = .bool (mayF s n) := by
  by_cases h : 4 ≤ n ∧ n ≤ 1000
  · exact may_yes b m p c k s n h w0 hb
  · exact may_no b m p c k s n h w0 hb
abbrev cBook (b : Nat) (n turn : Int) : List Value := [.pointer (some ⟨b, 0, none⟩), .int .i64 n, .int .u32 turn]
def fromN (n : Nat) (turn : Int) : Nat := 2 + (turn % 2).toNat * n
theorem from_c (b n : Nat) (turn : Int) (hn : n ≤ 1000) (ht : 0 ≤ turn ∧ turn ≤ 4294967295) (w0 : World) : Ret Tryz.prog 81 [.agg ⟨cBook b n turn⟩] w0 (fun _ => False) fun v _ => v = .int .i64 ((fromN n turn : Nat) : Int) := by
  refine enter Tryz.func81 rfl rfl (Wd.start w0) (fun a S => ?_)
  simp only [Tryz.ntmps81, List.length_cons, List.length_nil, Nat.reduceAdd, Nat.reduceSub, List.replicate_succ, List.replicate_zero, List.cons_append, List.nil_append] at S
  refine c_seq ?_; refine c_region ?_
  refine sa S ?_; clear S; intro b1 a w S
  refine sq S ?_; clear S; intro a S; refine wl_nil ?_; refine xtn ?_; refine c_seq ?_; refine c_region ?_; (iterate 9 (refine sq S ?_; clear S; intro a S)); refine wl_nil ?_; refine xtn ?_; refine c_ret ?_
  refine end1 S (fun _ => ?_)
  have h0 : turn.tmod 2 = turn % 2 := Int.tmod_eq_emod_of_nonneg ht.1
  rw [h0]
  rcases (show turn % 2 = 0 ∨ turn % 2 = 1 by omega) with h | h
  · rw [fromN, h]; simp [w64]
  · rw [fromN, h, show IntKind.i64.wrap 1 = 1 from rfl, Int.one_mul, w64 (n : Int) (by omega) (by omega), w64 _ (by omega) (by omega)]; simp
def upT (turn : Int) : Int := IntKind.u32.wrap (turn + 1)
theorem next_c (b n : Nat) (turn : Int) (w0 : World) : Ret Tryz.prog 80 [.agg ⟨cBook b n turn⟩] w0 (fun _ => False) fun v _ => v = .agg ⟨cBook b n (upT turn)⟩ := by
  refine enter Tryz.func80 rfl rfl (Wd.start w0) (fun a S => ?_)
  simp only [Tryz.ntmps80, List.length_cons, List.length_nil, Nat.reduceAdd, Nat.reduceSub, List.replicate_succ, List.replicate_zero, List.cons_append, List.nil_append] at S
  refine c_seq ?_; refine c_region ?_
  refine sa S ?_; clear S; intro b1 a w S
  refine sa S ?_; clear S; intro b2 a w S
  refine wl_nil ?_; refine xtn ?_; refine c_seq ?_; refine c_region ?_; (iterate 8 (refine sq S ?_; clear S; intro a S)); refine sw S ?_; clear S; intro a w S; refine wl_nil ?_; refine xtn ?_; refine c_ret ?_
  refine end1 S (fun _ => ?_)
  rfl
theorem begin2_c (g0 b m n : Nat) (p : Option Addr) (c : Nat) (s : DS) (turn : Int) (w0 : World) (hn : n ≤ 1000) (ht : 0 ≤ turn ∧ turn ≤ 4294967295) (hl : s.loose.length ≤ 999000) (hd : (dkI b m p c s).holds w0) (f0 : Stable (dkI b m p c s).foot w0 (BoxF g0 132 (cBook b n turn))) :
    Ret Tryz.prog 175 [.pointer (some ⟨g0, 0, none⟩)] w0 (dkI b m p c s).foot fun v w' => v = .int .i64 (layF s ((turn % 2).toNat : Nat) [titleF turn n]).2 ∧ ∃ p' c', (dkI b m p' c' (layF s ((turn % 2).toNat : Nat) [titleF turn n]).1).holds w' ∧ ∀ i, (dkI b m p' c' (layF s ((turn % 2).toNat : Nat) [titleF turn n]).1).foot i → (dkI b m p c s).foot i ∨ w0.heap.size ≤ i := by
  refine enter Tryz.func175 rfl rfl (Wd.itLent (x := dkI b m p c s) (fs := [BoxF g0 132 (cBook b n turn)]) hd (by intro Φ hΦ; obtain rfl := List.mem_singleton.1 hΦ; exact f0)) (fun a S => ?_)
  simp only [Tryz.ntmps175, List.length_cons, List.length_nil, Nat.reduceAdd, Nat.reduceSub, List.replicate_succ, List.replicate_zero, List.cons_append, List.nil_append] at S
  refine c_seq ?_; refine c_region ?_; refine sq S ?_; clear S; intro a S; refine wl_nil ?_; refine xtn ?_; refine c_seq ?_
  refine c_drawE [(0, true), (1, true), (2, true), (3, true), (4, true), (5, true), (6, true), (7, true), (8, true), (9, true), (10, false), (11, false), (12, false), (13, true)] [] S ?_; clear S; intro w S
  (iterate 6 (refine dq S ?_; clear S; intro a S))
  rw [show IntKind.i64.wrap (turn.tmod 2) = ((turn % 2).toNat : Int) from by rw [Int.tmod_eq_emod_of_nonneg ht.1, w64 _ (by omega) (by omega)]; omega] at S
  (iterate 4 (refine dq S ?_; clear S; intro a S)); refine dl ?_
  refine sr S (title_c turn n ht (by omega) _) ?_; clear S; rintro _ a w rfl S
  refine de S ?_; refine dl ?_
  have hlt := foots_lt S
  refine sr S (only_f (titleF turn n) 1 _) ?_; clear S; rintro _ a w ⟨h0, h1, rfl, ⟨n0, n1⟩, e0, e1⟩ S
  replace S := S.add (Φ := BoxF h0 3 [.int .i64 ((1 : Nat) : Int)]) (BoxF.stable e0 (fun hm => by have := hlt _ hm; omega))
  replace S := S.add (Φ := BoxF h1 129 (encL (titleF turn n).l)) (BoxF.stable e1 (fun hm => by have := hlt _ hm; omega))
  refine de S ?_; refine dl ?_
  refine sit (dkI b m p c s) S (lay_c 173 [.pointer (some ⟨h0, 0, none⟩), .pointer (some ⟨h1, 0, none⟩)] [titleF turn n] b m p c s (turn % 2).toNat [BoxF h1 129 (encL (titleF turn n).l), BoxF h0 3 [.int .i64 ((1 : Nat) : Int)]] _ (by simp; omega) (by simp; omega) (S.it (dkI b m p c s)) (fun Φ hΦ => S.lend (dkI b m p c s) (S.wd.facts Φ (List.mem_append_left _ hΦ))) (fun M w1 hM hF => only_it h0 h1 (titleF turn n) 1 (by omega) w1 M hM (hF _ (by simp)) (hF _ (by simp)))) rfl ?_; clear S; rintro _ a w ⟨rfl, p2, c2, hh, hn2⟩ hS
  have S := hS (dkI b m p2 c2 (layF s ((turn % 2).toNat : Nat) [titleF turn n]).1) hh hn2
  clear hS
  refine de S ?_; refine dq S ?_; clear S; intro a S; refine dn ?_; refine xtn ?_; refine c_ret ?_
  have h1 := S.itNew (dkI b m p2 c2 (layF s ((turn % 2).toNat : Nat) [titleF turn n]).1) rfl
  refine end1 S (fun _ => ⟨rfl, p2, c2, hh, h1⟩)
theorem begin1_c (g0 g1 b m n : Nat) (p : Option Addr) (c : Nat) (s : DS) (turn : Int) (bs : List UInt8) (q : Option Addr) (e : Nat) (w0 : World) (hn : n ≤ 1000) (ht : 0 ≤ turn ∧ turn ≤ 4294967295) (hbs : bs.length ≤ 40000) (hqe : bs.length ≤ e) (hl : s.loose.length ≤ 998000) (hd : (dkI b m p c s).holds w0) (f0 : Stable (dkI b m p c s).foot w0 (BoxF g0 132 (cBook b n turn))) (f1 : Stable (dkI b m p c s).foot w0 (BoxF g1 25 [.slice q bs.length e])) (f2 : Stable (dkI b m p c s).foot w0 (GlF q bs)) :
    Ret Tryz.prog 174 [.pointer (some ⟨g0, 0, none⟩), .pointer (some ⟨g1, 0, none⟩)] w0 (dkI b m p c s).foot fun v w' => v = .int .i64 (layF s (fromN n turn : Nat) (leavesF turn 0 bs)).2 ∧ ∃ p' c', (dkI b m p' c' (layF s (fromN n turn : Nat) (leavesF turn 0 bs)).1).holds w' ∧ ∀ i, (dkI b m p' c' (layF s (fromN n turn : Nat) (leavesF turn 0 bs)).1).foot i → (dkI b m p c s).foot i ∨ w0.heap.size ≤ i := by
  have hll : (leavesF turn 0 bs).length ≤ 840 := by rw [leavesF_len]; unfold secN; split <;> omega
  have hfr : fromN n turn ≤ 1002 := by
    unfold fromN
    rcases (show (turn % 2).toNat = 0 ∨ (turn % 2).toNat = 1 by omega) with h | h <;> rw [h] <;> omega
  refine enter Tryz.func174 rfl rfl (Wd.itLent (x := dkI b m p c s) (fs := [BoxF g0 132 (cBook b n turn), BoxF g1 25 [.slice q bs.length e], GlF q bs]) hd (by simp; exact ⟨f0, f1, f2⟩)) (fun a S => ?_)
  simp only [Tryz.ntmps174, List.length_cons, List.length_nil, Nat.reduceAdd, Nat.reduceSub, List.replicate_succ, List.replicate_zero, List.cons_append, List.nil_append] at S
  refine c_seq ?_; refine c_region ?_; refine sq S ?_; clear S; intro a S; refine wl_nil ?_; refine xtn ?_; refine c_seq ?_
  refine c_drawE [(0, true), (1, true), (2, true), (4, true), (5, true), (6, true), (3, false), (7, false), (8, false), (9, true)] [] S ?_; clear S; intro w S
  (iterate 6 (refine dq S ?_; clear S; intro a S)); refine dl ?_
  refine sr S (from_c b n turn hn ht _) ?_; clear S; rintro _ a w rfl S
  refine de S ?_; refine dl ?_
  have hlt := foots_lt S
  refine sr S (leaves_f turn 0 q bs.length e _) ?_; clear S; rintro _ a w ⟨h0, h1, h2, rfl, ⟨n0, n1, n2⟩, e0, e1, e2⟩ S
  replace S := S.add (Φ := BoxF h0 25 [.slice q bs.length e]) (BoxF.stable e0 (fun hm => by have := hlt _ hm; omega))
  replace S := S.add (Φ := BoxF h1 130 [.int .u32 turn]) (BoxF.stable e1 (fun hm => by have := hlt _ hm; omega))
  replace S := S.add (Φ := BoxF h2 130 [.int .u32 0]) (BoxF.stable e2 (fun hm => by have := hlt _ hm; omega))
  refine de S ?_; refine dl ?_
  refine sit (dkI b m p c s) S (lay_c 177 [.pointer (some ⟨h0, 0, none⟩), .pointer (some ⟨h1, 0, none⟩), .pointer (some ⟨h2, 0, none⟩)] (leavesF turn 0 bs) b m p c s (fromN n turn) [BoxF h2 130 [.int .u32 0], BoxF h1 130 [.int .u32 turn], BoxF h0 25 [.slice q bs.length e], BoxF g0 132 (cBook b n turn), BoxF g1 25 [.slice q bs.length e], GlF q bs] _ (by omega) (by omega) (S.it (dkI b m p c s)) (fun Φ hΦ => S.lend (dkI b m p c s) (S.wd.facts Φ hΦ)) (fun M w1 hM hF => leaves_it turn 0 ht (by omega) h0 h1 h2 bs q e hbs hqe w1 M hM (hF _ (by simp)) (hF _ (by simp)) (hF _ (by simp)) (hF _ (by simp)))) rfl ?_; clear S; rintro _ a w ⟨rfl, p3, c3, hh, hn2⟩ hS
  have S := hS (dkI b m p3 c3 (layF s (fromN n turn : Nat) (leavesF turn 0 bs)).1) hh hn2
  clear hS
  refine de S ?_; refine dq S ?_; clear S; intro a S; refine dn ?_; refine xtn ?_; refine c_ret ?_
  have h1 := S.itNew (dkI b m p3 c3 (layF s (fromN n turn : Nat) (leavesF turn 0 bs)).1) rfl
  have hh := S.it (dkI b m p3 c3 (layF s (fromN n turn : Nat) (leavesF turn 0 bs)).1)
  refine end1 S (fun _ => ⟨rfl, p3, c3, hh, h1⟩)
theorem askD_loose (s : DS) (k : Int) (b : Bool) : (askD s k b).loose = s.loose := by
  unfold askD; split
  · rfl
  · split
    · rfl
    · split
      · rfl
      · split <;> (try split) <;> rfl
theorem syD_loose (s : DS) : (syD s).loose.length ≤ s.loose.length := by
  unfold syD askedD
  split
  · simp [opD, settleD]
  · rw [askD_loose]; exact Nat.le_refl _
theorem layW_loose (xs : List Blk) : ∀ (s : DS) (k : Int), (layW s k xs).1.loose.length ≤ s.loose.length + xs.length := by
  induction xs with
  | nil => intro s k; exact Nat.le_refl _
  | cons x xs ih =>
    intro s k
    have h1 := wrD_loose s k x
    have h2 := ih (wrD s k x) (k + 1)
    rw [layW]
    split
    · rw [List.length_cons]; omega
    · rw [List.length_cons]; show (wrD s k x).loose.length ≤ _; omega
theorem layF_loose (s : DS) (k : Int) (xs : List Blk) : (layF s k xs).1.loose.length ≤ s.loose.length + xs.length := by
  have h1 := layW_loose xs s k
  have h2 := syD_loose (layW s k xs).1
  unfold layF
  split
  · show (syD (layW s k xs).1).loose.length ≤ _; omega
  · exact h1
def wstepF (n : Nat) (turn : Int) (bs : List UInt8) (i : Nat) (s : DS) : DS × Int := if i = 0 then layF s (fromN n turn : Nat) (leavesF turn 0 bs) else layF s ((turn % 2).toNat : Nat) [titleF turn n]
def restF (n : Nat) (turn : Int) (bs : List UInt8) : Nat → DS → DS × Int
  | 0, s => if (wstepF n turn bs 0 s).2 = 0 then wstepF n turn bs 1 (wstepF n turn bs 0 s).1 else wstepF n turn bs 0 s
  | 1, s => wstepF n turn bs 1 s
  | _, s => (s, 0)
def begF (n : Nat) (turn : Int) (bs : List UInt8) (s : DS) : DS × Int := restF n turn bs 0 s
theorem restF_step (n : Nat) (turn : Int) (bs : List UInt8) (i : Nat) (hi : i < 2) (s : DS) : restF n turn bs i s = if (wstepF n turn bs i s).2 = 0 then restF n turn bs (i + 1) (wstepF n turn bs i s).1 else wstepF n turn bs i s := by
  rcases (show i = 0 ∨ i = 1 by omega) with rfl | rfl
  · rfl
  · show wstepF n turn bs 1 s = if (wstepF n turn bs 1 s).2 = 0 then ((wstepF n turn bs 1 s).1, 0) else wstepF n turn bs 1 s
    split
    · rename_i h; rw [← h]
    · rfl
def stepFn (i : Nat) : Nat := if i = 0 then 174 else 175
def stepLb (g0 g1 i : Nat) : List Value := if i = 0 then [.pointer (some ⟨g0, 0, none⟩), .pointer (some ⟨g1, 0, none⟩)] else [.pointer (some ⟨g0, 0, none⟩)]
instance entStep {i : Nat} : EntF Tryz.prog (stepFn i) := by
  unfold stepFn
  split <;> infer_instance
theorem wstep_c (g0 g1 b m n : Nat) (p : Option Addr) (c : Nat) (s : DS) (turn : Int) (bs : List UInt8) (q : Option Addr) (e i : Nat) (w0 : World) (hn : n ≤ 1000) (ht : 0 ≤ turn ∧ turn ≤ 4294967295) (hbs : bs.length ≤ 40000) (hqe : bs.length ≤ e) (hl : s.loose.length ≤ 998000) (hd : (dkI b m p c s).holds w0) (f0 : Stable (dkI b m p c s).foot w0 (BoxF g0 132 (cBook b n turn))) (f1 : Stable (dkI b m p c s).foot w0 (BoxF g1 25 [.slice q bs.length e])) (f2 : Stable (dkI b m p c s).foot w0 (GlF q bs)) :
    Ret Tryz.prog (stepFn i) (stepLb g0 g1 i) w0 (dkI b m p c s).foot fun v w' => v = .int .i64 (wstepF n turn bs i s).2 ∧ ∃ p' c', (dkI b m p' c' (wstepF n turn bs i s).1).holds w' ∧ ∀ k, (dkI b m p' c' (wstepF n turn bs i s).1).foot k → (dkI b m p c s).foot k ∨ w0.heap.size ≤ k := by
  unfold stepFn stepLb wstepF
  split
  · exact begin1_c g0 g1 b m n p c s turn bs q e w0 hn ht hbs hqe hl hd f0 f1 f2
  · exact begin2_c g0 b m n p c s turn w0 hn ht (by omega) hd f0
theorem begin_c (b m n : Nat) (p : Option Addr) (c : Nat) (s : DS) (turn : Int) (bs : List UInt8) (q : Option Addr) (e : Nat) (w0 : World) (hn : n ≤ 1000) (ht : 0 ≤ turn ∧ turn ≤ 4294967295) (hbs : bs.length ≤ 40000) (hqe : bs.length ≤ e) (hl : s.loose.length ≤ 990000) (hd : (dkI b m p c s).holds w0) (f2 : Stable (dkI b m p c s).foot w0 (GlF q bs)) :
    Ret Tryz.prog 76 [.agg ⟨cBook b n turn⟩, .slice q bs.length e] w0 (dkI b m p c s).foot fun v w' => v = .int .i64 (begF n turn bs s).2 ∧ ∃ p' c', (dkI b m p' c' (begF n turn bs s).1).holds w' ∧ ∀ k, (dkI b m p' c' (begF n turn bs s).1).foot k → (dkI b m p c s).foot k ∨ w0.heap.size ≤ k := by
  have hll : (leavesF turn 0 bs).length ≤ 840 := by rw [leavesF_len]; unfold secN; split <;> omega
  have hst : ∀ i s, (wstepF n turn bs i s).1.loose.length ≤ s.loose.length + 840 := fun i s => by
    unfold wstepF
    split
    · have := layF_loose s (fromN n turn : Nat) (leavesF turn 0 bs); omega
    · have := layF_loose s ((turn % 2).toNat : Nat) [titleF turn n]; simp only [List.length_cons, List.length_nil] at this; omega
  refine enter Tryz.func76 rfl rfl (Wd.itLent (x := dkI b m p c s) (fs := [GlF q bs]) hd (by intro Φ hΦ; obtain rfl := List.mem_singleton.1 hΦ; exact f2)) (fun a S => ?_)
  simp only [Tryz.ntmps76, List.length_cons, List.length_nil, Nat.reduceAdd, Nat.reduceSub, List.replicate_succ, List.replicate_zero, List.cons_append, List.nil_append] at S
  refine c_seq ?_; refine c_region ?_
  refine sa S ?_; clear S; intro b2 a w S
  refine sa S ?_; clear S; intro b3 a w S
  refine sq S ?_; clear S; intro a S; refine wl_nil ?_; refine xtn ?_; refine c_seq ?_; refine c_region ?_; (iterate 3 (refine sq S ?_; clear S; intro a S))
  refine sa S ?_; clear S; intro b5 a w S
  refine sw S ?_; clear S; intro a w S; refine wl_nil ?_; refine xtn ?_; (iterate 2 (refine c_seq ?_)); refine c_region ?_; (iterate 2 (refine sq S ?_; clear S; intro a S)); refine wl_nil ?_; refine xtn ?_; refine c_block ?_
  replace S := S.boxToF b3
  replace S := S.boxToF b2
  refine c_fore4 S (fun (i : Nat) (s' : DS) (p' : Option Addr) (c' : Nat) uu => [(4, uu 4), (2, uu 7), (0, uu 8), (4, .int .i64 (i : Nat)), (0, uu 14), (0, uu 15), (0, uu 16), (0, uu 17), (0, uu 18), (0, uu 19), (0, uu 20), (0, uu 21)]) (fun (i : Nat) (s' : DS) (p' : Option Addr) (c' : Nat) => [Wk.box b5 252 [.func (.func (stepFn 0)) #[] ⟨stepLb b2 b3 0⟩, .func (.func (stepFn 1)) #[] ⟨stepLb b2 b3 1⟩], dkI b m p' c' s']) (fun (i : Nat) (s' : DS) (p' : Option Addr) (c' : Nat) => [BoxF b2 132 (cBook b n turn), BoxF b3 25 [.slice q bs.length e], GlF q bs]) (fun (i : Nat) (s' : DS) (p' : Option Addr) (c' : Nat) => i ≤ 2 ∧ begF n turn bs s = restF n turn bs i s' ∧ s'.loose.length ≤ 990000 + 840 * i) (fun (i : Nat) (s' : DS) (p' : Option Addr) (c' : Nat) => 2 - i) (0) (s) (p) (c) ?_ S.uu ?_ ?_
  · exact ⟨by omega, rfl, by omega⟩
  · first | exact S | exact S.sub _ _
  · clear S; rintro i s' p' c' uu a w ⟨hi, hre, hsl⟩ S
    refine c_seq ?_; refine c_region ?_; refine sq S ?_; clear S; intro a S; refine wl_nil ?_; refine xtn ?_; refine c_seq ?_
    refine c_cond S (fun h3 => ?_) (fun h3 => ?_)
    · refine c_skip ?_; refine xtn ?_; refine c_seq ?_; refine c_block ?_; refine c_seq ?_
      have hi2 : i < 2 := by have := of_decide_eq_true h3; omega
      rw [restF_step n turn bs i hi2] at hre
      refine c_region ?_
      refine sv (.func (.func (stepFn i)) #[] ⟨stepLb b2 b3 i⟩) S (fun hf => ?_) ?_
      · rcases (show i = 0 ∨ i = 1 by omega) with rfl | rfl
        · exact run_idx [.func (.func (stepFn 0)) #[] ⟨stepLb b2 b3 0⟩, .func (.func (stepFn 1)) #[] ⟨stepLb b2 b3 1⟩] 0 _ rfl rfl hf _
        · exact run_idx [.func (.func (stepFn 0)) #[] ⟨stepLb b2 b3 0⟩, .func (.func (stepFn 1)) #[] ⟨stepLb b2 b3 1⟩] 1 _ rfl rfl hf _
      clear S; intro a S
      refine sq S ?_; clear S; intro a S; refine wl_nil ?_; refine xtn ?_; refine c_seq ?_; refine c_region ?_; refine sq S ?_; clear S; intro a S
      have hfs := fun Φ hΦ => S.lend (dkI b m p' c' s') (S.wd.facts Φ hΦ)
      refine sit (dkI b m p' c' s') S (wstep_c b2 b3 b m n p' c' s' turn bs q e i _ hn ht hbs hqe (by omega) (S.it (dkI b m p' c' s')) (hfs _ (by simp)) (hfs _ (by simp)) (hfs _ (by simp))) rfl ?_; clear S hfs; rintro _ a w ⟨rfl, p2, c2, hh, hn2⟩ hS
      have S := hS (dkI b m p2 c2 (wstepF n turn bs i s').1) hh hn2
      clear hS
      refine sq S ?_; clear S; intro a S; refine wl_nil ?_; refine xtn ?_; refine c_seq ?_; refine c_region ?_; (iterate 2 (refine sq S ?_; clear S; intro a S)); refine wl_nil ?_; refine xtn ?_
      refine c_cond S (fun h6 => ?_) (fun h6 => ?_)
      · refine c_seq ?_; refine c_region ?_; (iterate 2 (refine sq S ?_; clear S; intro a S)); refine wl_nil ?_; refine xtn ?_; refine c_ret ?_; refine xbr ?_; (iterate 2 (refine xtr ?_)); refine xbr ?_; refine xtr ?_
        have he : (wstepF n turn bs i s').2 ≠ 0 := by simpa using h6
        rw [if_neg he] at hre
        have h1 := S.itNew (dkI b m p2 c2 (wstepF n turn bs i s').1) rfl
        refine end1 S (fun _ => ?_)
        rw [hre]
        exact ⟨rfl, p2, c2, hh, h1⟩
      · refine c_skip ?_; refine xbn ?_; refine xtn ?_; refine c_region ?_; (iterate 2 (refine sq S ?_; clear S; intro a S)); refine wl_nil ?_; refine xtn ?_
        rw [show IntKind.i64.wrap ((i : Int) + 1) = ((i + 1 : Nat) : Int) from by rw [w64 _ (by omega) (by omega)]; rfl] at S
        have he : (wstepF n turn bs i s').2 = 0 := by simpa using h6
        rw [if_pos he] at hre
        have := hst i s'
        exact ⟨i + 1, (wstepF n turn bs i s').1, p2, c2, S.uu, ⟨by omega, hre, by omega⟩, S.sub _ _, by omega⟩
    · refine c_exit ?_; (iterate 2 (refine xte ?_)); refine xbe ?_; refine xtn ?_; refine c_seq ?_; refine c_region ?_; refine sq S ?_; clear S; intro a S; refine wl_nil ?_; refine xtn ?_; refine c_ret ?_
      have hi2 : i = 2 := by have := of_decide_eq_false h3; omega
      subst hi2
      have h1 := S.itNew (dkI b m p' c' s') rfl
      have hh := S.it (dkI b m p' c' s')
      refine end1 S (fun _ => ?_)
      rw [hre]
      exact ⟨rfl, p', c', hh, h1⟩
structure LBy where
  p : Option Addr
  c : Nat
  bs : List UInt8
abbrev cBy (x : LBy) : List Value := [.slice x.p x.bs.length x.c]
instance encBy : Enc LBy := ⟨1, cBy, fun _ => rfl, fun x u hu => by obtain rfl := List.mem_singleton.1 hu; rfl⟩
instance layBy : Lay LBy := { encBy with
  dflt := ⟨none, 0, []⟩
  inn := fun _ _ => True
  mono := fun _ _ _ _ _ => trivial }
instance : SzE LBy 1 := ⟨rfl, by decide⟩
instance {x : LBy} : CellsOf x [.slice x.p x.bs.length x.c] := ⟨rfl⟩
def entI (said : List LBy) : Wk.Item where
  foot := fun k => ∃ x ∈ said, ∃ ad, x.p = some ad ∧ ad.block = k
  holds := fun w => ∀ x ∈ said, (∀ ad, x.p = some ad → ad.block < w.heap.size) ∧ GlF x.p x.bs w
theorem gl_loc {w1 w2 : World} {p : Option Addr} {bs : List UInt8} (hp : ∀ ad, p = some ad → w2.heap[ad.block]? = w1.heap[ad.block]?) (h : GlF p bs w1) : GlF p bs w2 :=
  ⟨⟨h.1.1, fun ad ha j u hj => by
    have h1 := h.1.2 ad ha j u hj
    have h2 : (ad.add j).block = ad.block := by unfold Addr.add; split <;> rfl
    unfold World.cell? at h1 ⊢
    rw [h2] at h1 ⊢
    rw [hp ad ha]; exact h1⟩, fun _ _ => trivial⟩
instance itEnt {said : List LBy} : ItOk (entI said) := ⟨fun w1 w2 h h1 x hx => ⟨fun ad ha => by
    have h2 := (h1 x hx).1 ad ha
    have h3 := h ad.block ⟨x, hx, ad, ha, rfl⟩
    rw [Array.getElem?_eq_getElem h2] at h3
    exact (Array.getElem?_eq_some_iff.1 h3).1, gl_loc (fun ad ha => h ad.block ⟨x, hx, ad, ha, rfl⟩) (h1 x hx).2⟩, fun w h k ⟨x, hx, ad, ha, hk⟩ => hk ▸ (h x hx).1 ad ha⟩
structure WS where
  n : Nat
  turn : Int
  said : List LBy
  fin : Nat
  broken : Bool
abbrev cWal (b : Nat) (q : Option Addr) (e : Nat) (x : WS) : List Value := [.pointer (some ⟨b, 0, none⟩), .int .i64 (x.n : Int), .int .u32 x.turn, .slice q x.said.length e, .int .i64 (x.fin : Int), .bool x.broken]
abbrev walI (g b : Nat) (q : Option Addr) (e : Nat) (x : WS) : Wk.Item := both (Wk.box g 134 (cWal b q e x)) (both (Wk.row 25 1 q x.said.length e (encL x.said)) (entI x.said))
theorem St.addE {w0 : World} {M0 : Nat → Prop} {ds : List Deferred} {a : Act} {w : World} {l : List Value} {bs : List Wk.Item} {fs : List (World → Prop)} (S : St w0 M0 ds a w l bs fs) (y : Wk.Item) [oy : ItOk y] (hy : y.holds w) (hf : ∀ k, ¬ y.foot k) : St w0 M0 ds a w l (y :: bs) fs :=
  ⟨S.slots, S.defers, S.wd.addItem (Agree.refl _ _) hy (fun k hk => (hf k hk).elim) (fun k hk => (hf k hk).elim) oy.loc⟩
def fmtF (n : Nat) (s : DS) : DS × Int := if (layF s 0 (List.replicate (2 * n + 2) zB)).2 = 0 then begF n 0 [] (layF s 0 (List.replicate (2 * n + 2) zB)).1 else layF s 0 (List.replicate (2 * n + 2) zB)
def newW (n : Nat) : WS := ⟨n, 0, [⟨none, 0, []⟩], 1, false⟩
theorem format_c (b m n : Nat) (p : Option Addr) (c : Nat) (s : DS) (w0 : World) (hm : mayF s n = true) (hl : s.loose.length ≤ 980000) (hd : (dkI b m p c s).holds w0) :
    Ret Tryz.prog 18 [.pointer (some ⟨b, 0, none⟩), .int .i64 (n : Int)] w0 (dkI b m p c s).foot fun v w' =>
      ((fmtF n s).2 ≠ 0 ∧ v = .tuple ⟨[.pointer none, .int .i64 (fmtF n s).2]⟩ ∧ ∃ p' c', (dkI b m p' c' (fmtF n s).1).holds w' ∧ ∀ k, (dkI b m p' c' (fmtF n s).1).foot k → (dkI b m p c s).foot k ∨ w0.heap.size ≤ k) ∨
      ((fmtF n s).2 = 0 ∧ ∃ g p' c' q e, v = .tuple ⟨[.pointer (some ⟨g, 0, none⟩), .int .i64 0]⟩ ∧ (both (dkI b m p' c' (fmtF n s).1) (walI g b q e (newW n))).holds w' ∧ ∀ k, (both (dkI b m p' c' (fmtF n s).1) (walI g b q e (newW n))).foot k → (dkI b m p c s).foot k ∨ w0.heap.size ≤ k) := by
  have hn : n ≤ 1000 := by simp [mayF] at hm; omega
  have hlo := layF_loose s 0 (List.replicate (2 * n + 2) zB)
  rw [List.length_replicate] at hlo
  refine enter Tryz.func18 rfl rfl (Wd.itLent (x := dkI b m p c s) (fs := []) hd (by simp)) (fun a S => ?_)
  simp only [Tryz.ntmps18, List.length_cons, List.length_nil, Nat.reduceAdd, Nat.reduceSub, List.replicate_succ, List.replicate_zero, List.cons_append, List.nil_append] at S
  refine c_seq ?_; refine c_region ?_; (iterate 2 (refine sq S ?_; clear S; intro a S)); refine wl_nil ?_; refine xtn ?_; refine c_seq ?_; refine c_block ?_; refine c_seq ?_; refine c_region ?_; (iterate 3 (refine sq S ?_; clear S; intro a S)); refine wl_nil ?_; refine xtn ?_; refine c_condF S ?_; refine c_seq ?_; refine c_region ?_; (iterate 2 (refine sq S ?_; clear S; intro a S))
  have hdk : (dkI b m p c s).holds _ := S.it (dkI b m p c s)
  refine sr S (may_c b m p c s.loose.length s n _ (BoxF.stable hdk.1 (fun h => h))) ?_; clear S; rintro _ a w rfl S
  refine sq S ?_; clear S; intro a S
  rw [hm, show (!true) = false from rfl] at S
  refine sq S ?_; clear S; intro a S; refine wl_nil ?_; refine xtn ?_; refine c_condF S ?_; refine c_skip ?_; refine xbn ?_; refine xtn ?_; (iterate 2 (refine c_seq ?_)); refine c_region ?_; (iterate 4 (refine sq S ?_; clear S; intro a S))
  rw [w64 (2 * (n : Int)) (by omega) (by omega)] at S
  refine sq S ?_; clear S; intro a S
  rw [show IntKind.i64.wrap (2 * (n : Int) + 2) = ((2 * n + 2 : Nat) : Int) from by rw [w64 _ (by omega) (by omega)]; rfl] at S
  have hlt := foots_lt S
  refine sr S (only_f zB (2 * n + 2) _) ?_; clear S; rintro _ a w ⟨h0, h1, rfl, ⟨n0, n1⟩, e0, e1⟩ S
  replace S := S.add (Φ := BoxF h0 3 [.int .i64 ((2 * n + 2 : Nat) : Int)]) (BoxF.stable e0 (fun hm => by have := hlt _ hm; omega))
  replace S := S.add (Φ := BoxF h1 129 (encL zB.l)) (BoxF.stable e1 (fun hm => by have := hlt _ hm; omega))
  refine sit (dkI b m p c s) S (lay_c 173 [.pointer (some ⟨h0, 0, none⟩), .pointer (some ⟨h1, 0, none⟩)] (List.replicate (2 * n + 2) zB) b m p c s 0 [BoxF h1 129 (encL zB.l), BoxF h0 3 [.int .i64 ((2 * n + 2 : Nat) : Int)]] _ (by rw [List.length_replicate]; omega) (by rw [List.length_replicate]; omega) (S.it (dkI b m p c s)) (fun Φ hΦ => S.lend (dkI b m p c s) (S.wd.facts Φ hΦ)) (fun M w1 hM hF => only_it h0 h1 zB (2 * n + 2) (by omega) w1 M hM (hF _ (by simp)) (hF _ (by simp)))) rfl ?_; clear S; rintro _ a w ⟨rfl, p2, c2, hh, hn2⟩ hS
  have S := hS (dkI b m p2 c2 (layF s 0 (List.replicate (2 * n + 2) zB)).1) hh hn2
  clear hS
  refine sq S ?_; clear S; intro a S; refine wl_nil ?_; refine xtn ?_; refine c_seq ?_; refine c_region ?_; (iterate 2 (refine sq S ?_; clear S; intro a S)); refine wl_nil ?_; refine xtn ?_
  refine c_cond S (fun h6 => ?_) (fun h6 => ?_)
  · refine c_seq ?_; refine c_region ?_; (iterate 3 (refine sq S ?_; clear S; intro a S)); refine wl_nil ?_; refine xtn ?_; refine c_ret ?_; refine xtr ?_
    have he : (layF s 0 (List.replicate (2 * n + 2) zB)).2 ≠ 0 := by simpa using h6
    have h1 := S.itNew (dkI b m p2 c2 (layF s 0 (List.replicate (2 * n + 2) zB)).1) rfl
    refine end2 S (fun _ => .inl ?_)
    rw [fmtF, if_neg he]
    exact ⟨he, rfl, p2, c2, hh, h1⟩
  · refine c_skip ?_; refine xtn ?_; refine c_seq ?_
    have he : (layF s 0 (List.replicate (2 * n + 2) zB)).2 = 0 := by simpa using h6
    have hfm : fmtF n s = begF n 0 [] (layF s 0 (List.replicate (2 * n + 2) zB)).1 := by rw [fmtF, if_pos he]
    refine c_region ?_; (iterate 3 (refine sq S ?_; clear S; intro a S))
    refine sa S ?_; clear S; intro b7 a w S
    refine sw S ?_; clear S; intro a w S; refine wl_nil ?_; refine xtn ?_; (iterate 2 (refine c_seq ?_)); refine c_region ?_; refine sq S ?_; clear S; intro a S
    refine sit (dkI b m p2 c2 (layF s 0 (List.replicate (2 * n + 2) zB)).1) S (begin_c b m n p2 c2 (layF s 0 (List.replicate (2 * n + 2) zB)).1 0 [] none 0 _ hn (by omega) (by simp) (by simp) (by omega) (S.it (dkI b m p2 c2 (layF s 0 (List.replicate (2 * n + 2) zB)).1)) (fun w' _ => ⟨slNil (fun _ => False) w' w' (Agree.refl _ _), fun _ h => by cases h⟩)) rfl ?_; clear S; rintro _ a w ⟨rfl, p3, c3, hh, hn3⟩ hS
    have S := hS (dkI b m p3 c3 (begF n 0 [] (layF s 0 (List.replicate (2 * n + 2) zB)).1).1) hh hn3
    clear hS
    rw [← hfm] at S
    refine sq S ?_; clear S; intro a S; refine wl_nil ?_; refine xtn ?_; refine c_seq ?_; refine c_region ?_; (iterate 2 (refine sq S ?_; clear S; intro a S)); refine wl_nil ?_; refine xtn ?_
    refine c_cond S (fun h10 => ?_) (fun h10 => ?_)
    · refine c_seq ?_; refine c_region ?_; (iterate 3 (refine sq S ?_; clear S; intro a S)); refine wl_nil ?_; refine xtn ?_; refine c_ret ?_; refine xtr ?_
      have he2 : (fmtF n s).2 ≠ 0 := by simpa using h10
      have h1 := S.itNew (dkI b m p3 c3 (fmtF n s).1) rfl
      have hh := S.it (dkI b m p3 c3 (fmtF n s).1)
      refine end2 S (fun _ => .inl ?_)
      exact ⟨he2, rfl, p3, c3, hh, h1⟩
    · refine c_skip ?_; refine xtn ?_; refine c_seq ?_; refine c_region ?_; refine sq S ?_; clear S; intro a S
      refine sn S ?_; clear S; intro b36 a w S
      refine sq S ?_; clear S; intro a S
      refine sa S ?_; clear S; intro b38 a w S
      (iterate 2 (refine sq S ?_; clear S; intro a S)); refine wl_nil ?_; refine xtn ?_; refine c_ret ?_
      have he2 : (fmtF n s).2 = 0 := by simpa using h10
      replace S := S.boxRow b36 1 1 rfl (by decide)
      replace S := St.addE S (entI (newW n).said) (fun x hx => by obtain rfl := List.mem_singleton.1 hx; exact ⟨fun ad h => (by cases h), gl_nil⟩) (fun k ⟨x, hx, ad, h, _⟩ => by obtain rfl := List.mem_singleton.1 hx; cases h)
      replace S := S.sub [entI (newW n).said, Wk.box b38 134 [.pointer (some ⟨b, 0, none⟩), .int .i64 (n : Int), .int .u32 0, .slice (some ⟨b36, 0, none⟩) 1 1, .int .i64 1, .bool false], Wk.row 25 1 (some ⟨b36, 0, none⟩) 1 1 [.slice none 0 0], dkI b m p3 c3 (fmtF n s).1] []
      have S := S.perm [Wk.box b38 134 (cWal b (some ⟨b36, 0, none⟩) 1 (newW n)), Wk.row 25 1 (some ⟨b36, 0, none⟩) 1 1 [.slice none 0 0], entI (newW n).said, dkI b m p3 c3 (fmtF n s).1] ((List.perm_append_comm (l₁ := [Wk.box b38 134 (cWal b (some ⟨b36, 0, none⟩) 1 (newW n)), Wk.row 25 1 (some ⟨b36, 0, none⟩) 1 1 [.slice none 0 0]]) (l₂ := [entI (newW n).said])).append_right [dkI b m p3 c3 (fmtF n s).1])
      have hh := St.hold4 S rfl rfl rfl rfl
      have h1 := St.new4 S rfl rfl rfl rfl
      refine end2 S (fun _ => .inr ?_)
      exact ⟨he2, b38, p3, c3, some ⟨b36, 0, none⟩, 1, rfl, hh, h1⟩
theorem wleft_c (g b : Nat) (q : Option Addr) (e : Nat) (x : WS) (hs : x.said.length ≤ 1000000 ∧ 0 < x.said.length) (hf : x.fin ≤ 1000000) (hn : x.n ≤ 1000) (w0 : World) (hb : Stable (fun _ => False) w0 (BoxF g 134 (cWal b q e x))) : Ret Tryz.prog 100 [.pointer (some ⟨g, 0, none⟩)] w0 (fun _ => False) fun v _ => v = .int .i64 ((x.n : Int) - x.fin) := by
  refine enter Tryz.func100 rfl rfl (Wd.begin (fs := [BoxF g 134 (cWal b q e x)]) (by simpa using hb)) (fun a S => ?_)
  simp only [Tryz.ntmps100, List.length_cons, List.length_nil, Nat.reduceAdd, Nat.reduceSub, List.replicate_succ, List.replicate_zero, List.cons_append, List.nil_append] at S
  refine c_seq ?_; refine c_region ?_; refine sq S ?_; clear S; intro a S; refine wl_nil ?_; refine xtn ?_; (iterate 2 (refine c_seq ?_)); refine c_region ?_; (iterate 2 (refine sq S ?_; clear S; intro a S)); refine wl_nil ?_; refine xtn ?_; refine c_condF S ?_; refine c_skip ?_; refine xtn ?_; refine c_seq ?_
  refine c_drawD [(0, true), (1, true), (2, true), (3, true), (4, true), (5, true), (6, true), (7, true), (8, true), (9, true), (10, true)] [] S ?_; clear S; intro w S
  (iterate 11 (refine dq S ?_; clear S; intro a S)); refine dn ?_; refine xtn ?_; refine c_ret ?_
  refine end1 S (fun _ => ?_)
  rw [w64 _ (by omega) (by omega)]
theorem wbroken_c (g b : Nat) (q : Option Addr) (e : Nat) (x : WS) (w0 : World) (hb : Stable (fun _ => False) w0 (BoxF g 134 (cWal b q e x))) : Ret Tryz.prog 99 [.pointer (some ⟨g, 0, none⟩)] w0 (fun _ => False) fun v _ => v = .bool x.broken := by
  refine enter Tryz.func99 rfl rfl (Wd.begin (fs := [BoxF g 134 (cWal b q e x)]) (by simpa using hb)) (fun a S => ?_)
  simp only [Tryz.ntmps99, List.length_cons, List.length_nil, Nat.reduceAdd, Nat.reduceSub, List.replicate_succ, List.replicate_zero, List.cons_append, List.nil_append] at S
  refine c_seq ?_; refine c_region ?_; refine sq S ?_; clear S; intro a S; refine wl_nil ?_; refine xtn ?_; refine c_seq ?_; refine c_region ?_; (iterate 3 (refine sq S ?_; clear S; intro a S)); refine gT S ?_; refine sq S ?_; clear S; intro a S; refine gT S ?_; refine sq S ?_; clear S; intro a S; refine gT S ?_; refine sq S ?_; clear S; intro a S; refine gT S ?_; (iterate 3 (refine sq S ?_; clear S; intro a S))
  refine wl_nil ?_; refine xtn ?_; refine c_ret ?_
  refine end1 S (fun _ => ?_)
  rfl
def refF (x : WS) (bs : List UInt8) : Int := if 40000 < bs.length then 3 else if x.broken then 8 else 0
theorem refuses_c (g b : Nat) (q : Option Addr) (e : Nat) (x : WS) (y : LBy) (w0 : World) (hb : Stable (fun _ => False) w0 (BoxF g 134 (cWal b q e x))) : Ret Tryz.prog 77 [.pointer (some ⟨g, 0, none⟩), .slice y.p y.bs.length y.c] w0 (fun _ => False) fun v _ => v = .int .i64 (refF x y.bs) := by
  refine enter Tryz.func77 rfl rfl (Wd.begin (fs := [BoxF g 134 (cWal b q e x)]) (by simpa using hb)) (fun a S => ?_)
  simp only [Tryz.ntmps77, List.length_cons, List.length_nil, Nat.reduceAdd, Nat.reduceSub, List.replicate_succ, List.replicate_zero, List.cons_append, List.nil_append] at S
  refine c_seq ?_; refine c_region ?_; refine sq S ?_; clear S; intro a S; refine wl_nil ?_; refine xtn ?_; refine c_seq ?_; refine c_block ?_; refine c_seq ?_; refine c_region ?_; (iterate 3 (refine sq S ?_; clear S; intro a S)); refine wl_nil ?_; refine xtn ?_; refine c_condF S ?_; refine c_seq ?_; refine c_region ?_; (iterate 4 (refine sq S ?_; clear S; intro a S)); refine wl_nil ?_; refine xtn ?_
  refine c_cond S (fun h3 => ?_) (fun h3 => ?_)
  · refine c_seq ?_; refine c_region ?_; refine sq S ?_; clear S; intro a S; refine wl_nil ?_; refine xtn ?_; refine c_ret ?_; refine xbr ?_; refine xtr ?_
    have h : 40000 < y.bs.length := by have := of_decide_eq_true h3; omega
    refine end1 S (fun _ => ?_)
    rw [refF, if_pos h]
  · refine c_seq ?_; refine c_region ?_; (iterate 5 (refine sq S ?_; clear S; intro a S)); refine wl_nil ?_; refine xtn ?_
    refine c_cond S (fun h5 => ?_) (fun h5 => ?_)
    · refine c_seq ?_; refine c_region ?_; refine sq S ?_; clear S; intro a S; refine wl_nil ?_; refine xtn ?_; refine c_ret ?_; refine xbr ?_; refine xtr ?_
      have h : ¬ 40000 < y.bs.length := by have := of_decide_eq_false h3; omega
      have hx : x.broken = true := h5
      refine end1 S (fun _ => ?_)
      rw [refF, if_neg h, if_pos hx]
    · refine c_skip ?_; refine xbn ?_; refine xtn ?_; refine c_seq ?_; refine c_region ?_; refine sq S ?_; clear S; intro a S; refine wl_nil ?_; refine xtn ?_; refine c_ret ?_
      have h : ¬ 40000 < y.bs.length := by have := of_decide_eq_false h3; omega
      have hx : x.broken = false := h5
      refine end1 S (fun _ => ?_)
      rw [refF, if_neg h, hx]; rfl
def brkF (x : WS) (v : Int) : WS := { x with broken := x.broken || decide (v ≠ 0) }
theorem snap_c (g b : Nat) (q : Option Addr) (e : Nat) (x : WS) (y : LBy) (h0 : 0 < x.said.length) (hy : nthG x.said 0 = y) (hl : y.bs.length ≤ 1000000) (w0 : World) (f1 : Stable (fun _ => False) w0 (BoxF g 134 (cWal b q e x))) (f2 : Stable (fun _ => False) w0 (GlF q x.said)) (f3 : Stable (fun _ => False) w0 (GlF y.p y.bs)) :
    Ret Tryz.prog 86 [.pointer (some ⟨g, 0, none⟩)] w0 (fun _ => False) fun v w' => ∃ p' c', v = .slice p' y.bs.length c' ∧ w'.ownsRow 0 5 1 (.slice p' y.bs.length c') y.bs.length (encL y.bs) ∧ ∀ ad, p' = some ad → w0.heap.size ≤ ad.block := by
  have hK : KLt 0 x.said.length := ⟨h0⟩
  refine enter Tryz.func86 rfl rfl (Wd.begin (fs := [BoxF g 134 (cWal b q e x), GlF q x.said, GlF y.p y.bs]) (by simp; exact ⟨f1, f2, f3⟩)) (fun a S => ?_)
  simp only [Tryz.ntmps86, List.length_cons, List.length_nil, Nat.reduceAdd, Nat.reduceSub, List.replicate_succ, List.replicate_zero, List.cons_append, List.nil_append] at S
  refine c_seq ?_; refine c_region ?_; refine sq S ?_; clear S; intro a S; refine wl_nil ?_; refine xtn ?_; (iterate 2 (refine c_seq ?_)); refine c_region ?_; (iterate 2 (refine sq S ?_; clear S; intro a S)); refine wl_nil ?_; refine xtn ?_; refine c_condF S ?_; refine c_skip ?_; refine xtn ?_; refine c_seq ?_; refine c_region ?_; (iterate 6 (refine sq S ?_; clear S; intro a S))
  rw [hy] at S
  replace S := S.addNil 5 1
  refine sap S (by simp only [maxLen]; omega) (by omega) ?_; clear S; rintro p3 c3 a w - S
  rw [List.nil_append, Nat.zero_add] at S
  refine sq S ?_; clear S; intro a S; refine wl_nil ?_; refine xtn ?_; refine c_ret ?_
  have hrow := S.row p3 y.bs.length
  have hnew := S.rowNew p3 y.bs.length
  refine end1 S (fun _ => ?_)
  exact ⟨p3, c3, rfl, hrow, fun ad h => (hnew ad h).elim (fun h => h.elim) id⟩
def AllBy (came : List LBy) : World → Prop := fun w => ∀ y ∈ came, GlF y.p y.bs w
def toldL (came : List LBy) : List (Nat × LBy) := (List.range came.length).map fun k => (k + 1, nthG came k)
def toldE (x : Nat × LBy) (vs : List Value) (W0 W1 : World) : Prop := ∃ p' c', vs = [.int .i64 (x.1 : Int), .slice p' x.2.bs.length c'] ∧ W1.ownsRow 0 5 1 (.slice p' x.2.bs.length c') x.2.bs.length (encL x.2.bs) ∧ ∀ ad, p' = some ad → W0.heap.size ≤ ad.block
theorem all_it (g : Nat) (came : List LBy) (q : Option Addr) (e : Nat) (hl : came.length ≤ 1000000) (hby : ∀ y ∈ came, y.bs.length ≤ 1000000) (w0 : World) (M : Nat → Prop) (hM : ∀ k, M k → k < w0.heap.size) (f0 : Stable M w0 (BoxF g 33 [.slice q came.length e])) (f1 : Stable M w0 (GlF q came)) (f2 : Stable M w0 (AllBy came)) :
    IterRet Tryz.prog 188 [.pointer (some ⟨g, 0, none⟩)] w0 M toldE (toldL came) := by
  intro L J Jx hy hJ
  have hF : ∀ Φ ∈ [BoxF g 33 [.slice q came.length e], GlF q came, AllBy came], Stable M w0 Φ := by simp; exact ⟨f0, f1, f2⟩
  refine (callsIn_wide (n := 0)).2 ?_
  refine enter Tryz.func188 rfl rfl (Wd.beginM (M := M) (fs := [BoxF g 33 [.slice q came.length e], GlF q came, AllBy came]) hM hF) (fun a S => ?_)
  simp only [Tryz.ntmps188, List.length_cons, List.length_nil, Nat.reduceAdd, Nat.reduceSub, List.replicate_succ, List.replicate_zero, List.cons_append, List.nil_append] at S
  refine c_seq ?_; refine c_region ?_; (iterate 3 (refine sq S ?_; clear S; intro a S)); refine wl_nil ?_; refine xtn ?_; refine c_block ?_
  refine c_loop (ι := Nat) (fun k a w => k ≤ came.length ∧ ∃ N w1, J k w1 ∧ ∃ uu : Nat → Value,  St w1 (fun _ => False) [] a w ((.func (.yield L) #[] #[]) :: (.pointer (some ⟨g, 0, none⟩)) :: uu 2 :: uu 3 :: uu 4 :: (.slice q came.length e) :: (.int .i64 (came.length : Nat)) :: (.int .i64 (k : Nat)) :: uu 8 :: uu 9 :: uu 10 :: uu 11 :: uu 12 :: uu 13 :: uu 14 :: uu 15 :: uu 16 :: uu 17 :: uu 18 :: uu 19 :: []) [ext N] [BoxF g 33 [.slice q came.length e], GlF q came, AllBy came]) (fun k => came.length - k) 0 ?_ ?_
  · exact ⟨Nat.zero_le _, M, w0, hJ, S.uu, S⟩
  · clear S
    rintro k a w ⟨hk, N, w1, hJk, uu, S⟩
    refine c_seq ?_; refine c_region ?_; refine sq S ?_; clear S; intro a S; refine wl_nil ?_; refine xtn ?_; refine c_seq ?_
    refine c_cond S (fun h1 => ?_) (fun h1 => ?_)
    · refine c_skip ?_; refine xtn ?_; refine c_seq ?_; refine c_block ?_; refine c_seq ?_
      have hkn : k < came.length := by have := of_decide_eq_true h1; omega
      have hK : KLt k came.length := ⟨hkn⟩
      have hx : (toldL came)[k]? = some (k + 1, nthG came k) := by rw [toldL, List.getElem?_map, List.getElem?_range hkn]; rfl
      have hyl := hby _ (nthG_mem hkn)
      replace S := S.add (Φ := GlF (nthG came k).p (nthG came k).bs) ((S.mem.fact (AllBy came)).imp fun _ h => h _ (nthG_mem hkn))
      refine c_region ?_; (iterate 5 (refine sq S ?_; clear S; intro a S)); refine wl_nil ?_; refine xtn ?_; refine c_seq ?_; refine c_region ?_; (iterate 3 (refine sq S ?_; clear S; intro a S))
      rw [show IntKind.i64.wrap ((k : Int) + 1) = ((k + 1 : Nat) : Int) from by rw [w64 _ (by omega) (by omega)]; rfl] at S
      refine sq S ?_; clear S; intro a S
      replace S := S.addNil 5 1
      refine sap S (by simp only [maxLen]; omega) (by omega) ?_; clear S; rintro p3 c3 a w - S
      rw [List.nil_append, Nat.zero_add] at S
      have hrow := S.row p3 (nthG came k).bs.length
      have hnew := S.rowNew p3 (nthG came k).bs.length
      refine sy S (M := M) (wI := w0) (fs0 := [BoxF g 33 [.slice q came.length e], GlF q came, AllBy came]) hF (hy _ _ _ w1 _ hx hJk S.wd.agree ⟨p3, c3, rfl, hrow, fun ad h => (hnew ad h).elim (fun h => h.elim) id⟩) ?_; clear S hrow hnew; intro ok N' a w2 hT hX S
      refine sq S ?_; clear S; intro a S; refine wl_nil ?_; refine xtn ?_
      refine c_cond S (fun h3 => ?_) (fun h3 => ?_)
      · refine c_ret ?_; refine xbr ?_; (iterate 2 (refine xtr ?_)); refine xbr ?_
        exact endI S ⟨w2, S.wd.agree, .inr (hX (by simpa using h3))⟩
      · refine c_skip ?_; refine xbn ?_; refine xtn ?_; refine c_region ?_; (iterate 2 (refine sq S ?_; clear S; intro a S)); refine wl_nil ?_; refine xtn ?_
        rw [w64 ((k : Int) + 1) (by omega) (by omega)] at S
        exact ⟨k + 1, ⟨by omega, N', w2, hT (by simpa using h3), S.uu, S⟩, by omega⟩
    · refine c_exit ?_; (iterate 2 (refine xte ?_)); refine xbe ?_
      have hkn : k = came.length := by have := of_decide_eq_false h1; omega
      refine endI S ⟨w1, S.wd.agree, .inl ?_⟩
      rw [toldL, List.length_map, List.length_range, ← hkn]; exact hJk
def allV (g : Nat) : Value := .func (.func 188) #[] ⟨[.pointer (some ⟨g, 0, none⟩)]⟩
theorem all_c (g b : Nat) (q : Option Addr) (e : Nat) (x : WS) (h0 : 0 < x.said.length) (hc : x.said.length ≤ e) (w0 : World) (f1 : Stable (fun _ => False) w0 (BoxF g 134 (cWal b q e x))) :
    Ret Tryz.prog 94 [.pointer (some ⟨g, 0, none⟩)] w0 (fun _ => False) fun v w' => ∃ h, v = allV h ∧ w0.heap.size ≤ h ∧ BoxF h 33 [.slice (if e = 1 then q else q.map (·.add (1 * 1))) (x.said.length - 1) (e - 1)] w' := by
  have hLa : LeC 1 x.said.length := ⟨h0⟩
  have hLb : LeC x.said.length e := ⟨hc⟩
  have hLc : LeC 1 e := ⟨by omega⟩
  refine enter Tryz.func94 rfl rfl (Wd.begin (fs := [BoxF g 134 (cWal b q e x)]) (by simpa using f1)) (fun a S => ?_)
  simp only [Tryz.ntmps94, List.length_cons, List.length_nil, Nat.reduceAdd, Nat.reduceSub, List.replicate_succ, List.replicate_zero, List.cons_append, List.nil_append] at S
  refine c_seq ?_; refine c_region ?_; refine sq S ?_; clear S; intro a S; refine wl_nil ?_; refine xtn ?_; refine c_seq ?_; refine c_region ?_
  refine sa S ?_; clear S; intro b3 a w S
  refine wl_nil ?_; refine xtn ?_; (iterate 2 (refine c_seq ?_)); refine c_region ?_; (iterate 2 (refine sq S ?_; clear S; intro a S)); refine wl_nil ?_; refine xtn ?_; refine c_condT S ?_; refine c_region ?_; (iterate 5 (refine sq S ?_; clear S; intro a S)); refine sw S ?_; clear S; intro a w S; refine wl_nil ?_; refine xtn ?_; refine c_seq ?_; refine c_region ?_; (iterate 2 (refine sq S ?_; clear S; intro a S))
  refine wl_nil ?_; refine xtn ?_; refine c_ret ?_
  have hn := (S.boxNew b3).elim (fun h => h.elim) id
  have hh := S.boxF b3
  exact end1 S (fun _ => ⟨b3, rfl, hn, hh⟩)
abbrev cBlk (x : Blk) : List Value := encL x.l
instance encBlk : Enc Blk := ⟨64, cBlk, fun x => x.len, fun x u hu => encL_one _ u hu⟩
instance layBlk : Lay Blk := { encBlk with
  dflt := zB
  inn := fun _ _ => True
  mono := fun _ _ _ _ _ => trivial }
instance : SzE Blk 64 := ⟨rfl, by decide⟩
instance {x : Blk} : CellsOf x (encL x.l) := ⟨rfl⟩
instance eqgBlk : EqG Tryz.prog 129 := ⟨by kernel_rfl⟩
instance lenBlk {x : Blk} : LenIs (encL x.l) 64 := ⟨x.len⟩
theorem u8_nat (n : Int) : ((Wk.u8 n).toNat : Int) = n % 256 := by
  unfold Wk.u8
  rw [UInt8.toNat_ofNat']
  omega
theorem be4 (v : Int) : be 4 v = [Wk.u8 (v.fdiv 16777216), Wk.u8 (v.fdiv 65536), Wk.u8 (v.fdiv 256), Wk.u8 (v.fdiv 1)] := rfl
theorem be2 (v : Int) : be 2 v = [Wk.u8 (v.fdiv 256), Wk.u8 (v.fdiv 1)] := rfl
theorem num1 (c : UInt8) (bs : List UInt8) (x : Int) : numB (c :: bs) x = numB bs (IntKind.u64.wrap (IntKind.u64.wrap (256 * x) + (c.toNat : Int))) := rfl
theorem u32B_be (v : Int) (h : 0 ≤ v ∧ v ≤ 4294967295) (r : List UInt8) : u32B (be 4 v ++ r) = v := by
  have h1 := Int.fdiv_eq_ediv_of_nonneg v (b := 16777216) (by omega)
  have h2 := Int.fdiv_eq_ediv_of_nonneg v (b := 65536) (by omega)
  have h3 := Int.fdiv_eq_ediv_of_nonneg v (b := 256) (by omega)
  have h4 := Int.fdiv_eq_ediv_of_nonneg v (b := 1) (by omega)
  rw [u32B, List.take_left' (be_len 4 v), be4, num1, num1, num1, num1, u8_nat, u8_nat, u8_nat, u8_nat, h1, h2, h3, h4]
  show IntKind.u32.wrap (numB [] _) = v
  rw [show ∀ x, numB [] x = x from fun _ => rfl]
  rw [wu64 (256 * 0) (by omega) (by omega), wu64 (256 * 0 + _) (by omega) (by omega), wu64 (256 * (256 * 0 + _)) (by omega) (by omega), wu64 (256 * (256 * 0 + _) + _) (by omega) (by omega)]
  rw [wu64 (256 * (256 * (256 * 0 + _) + _)) (by omega) (by omega), wu64 (256 * (256 * (256 * 0 + _) + _) + _) (by omega) (by omega)]
  rw [wu64 (256 * (256 * (256 * (256 * 0 + _) + _) + _)) (by omega) (by omega), wu64 (256 * (256 * (256 * (256 * 0 + _) + _) + _) + _) (by omega) (by omega)]
  rw [wu32 _ (by omega) (by omega)]
  omega
theorem u16B_be (v : Int) (h : 0 ≤ v ∧ v ≤ 65535) (r : List UInt8) : u16B (be 2 v ++ r) = v := by
  have h3 := Int.fdiv_eq_ediv_of_nonneg v (b := 256) (by omega)
  have h4 := Int.fdiv_eq_ediv_of_nonneg v (b := 1) (by omega)
  rw [u16B, List.take_left' (be_len 2 v), be2, num1, num1, u8_nat, u8_nat, h3, h4]
  rw [show ∀ x, numB [] x = x from fun _ => rfl]
  rw [wu64 (256 * 0) (by omega) (by omega), wu64 (256 * 0 + _) (by omega) (by omega), wu64 (256 * (256 * 0 + _)) (by omega) (by omega), wu64 (256 * (256 * 0 + _) + _) (by omega) (by omega)]
  rw [wu16 _ (by omega) (by omega)]
  omega
theorem be4_inj {u v : Int} (hu : 0 ≤ u ∧ u ≤ 4294967295) (hv : 0 ≤ v ∧ v ≤ 4294967295) (h : be 4 u = be 4 v) : u = v := by
  rw [← u32B_be u hu [], ← u32B_be v hv [], h]
theorem wbe2_inj {u v : Int} (hu : 0 ≤ u ∧ u ≤ 65535) (hv : 0 ≤ v ∧ v ≤ 65535) (h : be 2 u = be 2 v) : u = v := by
  rw [← u16B_be u hu [], ← u16B_be v hv [], h]
theorem seal_drop {bs : List UInt8} (h : bs.length = 60) : (sealF bs).l.drop 4 = bs := by
  rw [sealF_l h, List.drop_left' (by rw [List.length_drop, shaF_len])]
theorem Blk.ext' {x y : Blk} (h : x.l = y.l) : x = y := by cases x; cases y; cases h; rfl
theorem leaf_drop (t j : Int) (bs : List UInt8) (k : Nat) : (leafF t j bs k).l.drop 4 = leafB t j bs.length (bs.drop (48 * k)) := seal_drop (leafB_len _ _ _ _)
theorem leaf_parts {t j t' j' : Int} {bs bs' : List UInt8} {k k' : Nat} (h : leafF t j bs k = leafF t' j' bs' k') :
    be 4 t = be 4 t' ∧ be 4 j = be 4 j' ∧ be 2 (bs.length : Int) = be 2 (bs'.length : Int) ∧ be 2 ((bs.drop (48 * k)).length : Int) = be 2 ((bs'.drop (48 * k')).length : Int) ∧ pad48 (bs.drop (48 * k)) = pad48 (bs'.drop (48 * k')) := by
  have h1 : leafB t j bs.length (bs.drop (48 * k)) = leafB t' j' bs'.length (bs'.drop (48 * k')) := by rw [← leaf_drop, ← leaf_drop, h]
  unfold leafB at h1
  obtain ⟨h1, e5⟩ := List.append_inj' h1 (by rw [pad48_len, pad48_len])
  obtain ⟨h1, e4⟩ := List.append_inj' h1 (by rw [be_len, be_len])
  obtain ⟨h1, e3⟩ := List.append_inj' h1 (by rw [be_len, be_len])
  obtain ⟨e1, e2⟩ := List.append_inj' h1 (by rw [be_len, be_len])
  exact ⟨e1, e2, e3, e4, e5⟩
theorem leaf_d12 (t j : Int) (bs : List UInt8) (k : Nat) : (leafF t j bs k).l.drop 12 = be 2 (bs.length : Int) ++ (be 2 ((bs.drop (48 * k)).length : Int) ++ pad48 (bs.drop (48 * k))) := by
  rw [show 12 = 4 + 8 from rfl, ← List.drop_drop, leaf_drop, leafB]
  simp only [List.append_assoc]
  rw [← List.append_assoc (be 4 t), List.drop_left' (by simp [be_len])]
theorem leaf_d16 (t j : Int) (bs : List UInt8) (k : Nat) : (leafF t j bs k).l.drop 16 = pad48 (bs.drop (48 * k)) := by
  rw [show 16 = 12 + 4 from rfl, ← List.drop_drop, leaf_d12, ← List.append_assoc, List.drop_left' (by simp [be_len])]
def sizeAt (x : Blk) : Int := u16B (x.l.drop 12)
theorem sizeAt_leaf (t j : Int) (bs : List UInt8) (k : Nat) (h : bs.length ≤ 40000) : sizeAt (leafF t j bs k) = bs.length := by
  rw [sizeAt, leaf_d12, u16B_be _ (by omega)]
theorem sizeAt_range (x : Blk) : 0 ≤ sizeAt x ∧ sizeAt x ≤ 65535 := by
  unfold sizeAt u16B IntKind.wrap
  simp only [IntKind.bits, IntKind.signed, Bool.false_and]
  simp; omega
def gather (xs : List Blk) : List UInt8 := (xs.map fun x => x.l.drop 16).flatten
theorem pads (m : Nat) : ∀ bs : List UInt8, bs.length ≤ 48 * m → (((List.range m).map fun k => pad48 (bs.drop (48 * k))).flatten).take bs.length = bs := by
  induction m with
  | zero => intro bs h; obtain rfl : bs = [] := List.eq_nil_of_length_eq_zero (by omega); rfl
  | succ m ih =>
    intro bs h
    rw [List.range_succ_eq_map, List.map_cons, List.flatten_cons, List.map_map]
    have e : ((fun k => pad48 (bs.drop (48 * k))) ∘ Nat.succ) = fun k => pad48 ((bs.drop 48).drop (48 * k)) := by
      funext k; simp only [Function.comp_apply, List.drop_drop]; congr 2; show 48 * (k + 1) = _; omega
    rw [e, show 48 * 0 = 0 from rfl, List.drop_zero, List.take_append, pad48_len]
    have h2 := ih (bs.drop 48) (by rw [List.length_drop]; omega)
    rw [List.length_drop] at h2
    rw [h2]
    by_cases h48 : bs.length ≤ 48
    · rw [List.drop_of_length_le h48, List.append_nil, pad48, List.take_of_length_le h48, List.take_left' rfl]
    · rw [List.take_of_length_le (by rw [pad48_len]; omega), pad48, show 48 - bs.length = 0 from by omega, List.replicate_zero, List.append_nil, List.take_append_drop]
theorem secN_pos (n : Nat) : 0 < secN n := by unfold secN; split <;> omega
theorem secN_mul (n : Nat) : n ≤ 48 * secN n := by unfold secN; split <;> omega
theorem secN_le (n : Nat) (h : n ≤ 40000) : secN n ≤ 834 := by unfold secN; split <;> omega
theorem gather_leaves (t j : Int) (bs : List UInt8) : (gather (leavesF t j bs)).take bs.length = bs := by
  rw [gather, leavesF, List.map_map, show ((fun x : Blk => x.l.drop 16) ∘ leafF t j bs) = fun k => pad48 (bs.drop (48 * k)) from funext fun k => leaf_d16 t j bs k]
  exact pads _ _ (secN_mul _)
theorem leaves_get (t j : Int) (bs : List UInt8) (k : Nat) (h : k < secN bs.length) : (leavesF t j bs)[k]? = some (leafF t j bs k) := by
  rw [leavesF, List.getElem?_map, List.getElem?_range h]; rfl
def Fresh (T : Int) (x : Blk) : Prop := ∀ t j bs k, T ≤ t → t ≤ 4294967295 → 1 ≤ j → j ≤ 4294967295 → x ≠ leafF t j bs k
theorem Fresh.mono {T T' : Int} {x : Blk} (h : Fresh T x) (hT : T ≤ T') : Fresh T' x := fun t j bs k h1 h2 h3 h4 => h t j bs k (Int.le_trans hT h1) h2 h3 h4
theorem fresh_zero (T : Int) : Fresh T zB := by
  intro t j bs k _ _ h3 h4 h
  have h1 : (zB.l.drop 4).drop 4 = be 4 j ++ (be 2 (bs.length : Int) ++ (be 2 ((bs.drop (48 * k)).length : Int) ++ pad48 (bs.drop (48 * k)))) := by
    rw [h, leaf_drop, leafB]
    simp only [List.append_assoc]
    rw [List.drop_left' (be_len _ _)]
  have h2 : u32B ((zB.l.drop 4).drop 4) = j := by rw [h1, u32B_be j (by omega)]
  have h5 : u32B ((zB.l.drop 4).drop 4) = 0 := by decide
  omega
theorem fresh_old (T t j : Int) (bs : List UInt8) (k : Nat) (ht : 0 ≤ t ∧ t ≤ 4294967295) (h : t < T) : Fresh T (leafF t j bs k) := by
  intro t' j' bs' k' h1 h2 _ _ e
  have := be4_inj ht (by omega) (leaf_parts e).1
  omega
theorem fresh_zeroth (T t : Int) (bs : List UInt8) (k : Nat) : Fresh T (leafF t 0 bs k) := by
  intro t' j' bs' k' _ _ h3 h4 e
  have := be4_inj (u := 0) (by omega) (by omega) (leaf_parts e).2.1
  omega
def NoEntry (t j : Int) (tail : List Blk) : Prop := ∀ bs : List UInt8, bs.length ≤ 40000 → ¬ leavesF t j bs <+: tail
theorem noEntry_fresh {t j : Int} {tail : List Blk} (ht : t ≤ 4294967295) (hj : 1 ≤ j ∧ j ≤ 4294967295) (h : ∀ x ∈ tail, Fresh t x) : NoEntry t j tail := by
  intro bs _ ⟨r, hr⟩
  have h0 := leaves_get t j bs 0 (secN_pos _)
  have hm : leafF t j bs 0 ∈ tail := by rw [← hr]; exact List.mem_append_left _ (List.mem_of_getElem? h0)
  exact h _ hm t j bs 0 (Int.le_refl _) ht hj.1 hj.2 rfl
def standF (t : Int) (field : List Blk) (at_ : Nat) (j : Int) : Option (List UInt8) :=
  if field.length ≤ at_ then none else
  if (secF (sizeAt (nthG field at_))).toNat = 0 ∨ field.length - at_ < (secF (sizeAt (nthG field at_))).toNat then none else
  if leavesF t j ((gather ((field.drop at_).take (secF (sizeAt (nthG field at_))).toNat)).take (sizeAt (nthG field at_)).toNat) = (field.drop at_).take (secF (sizeAt (nthG field at_))).toNat then
    some ((gather ((field.drop at_).take (secF (sizeAt (nthG field at_))).toNat)).take (sizeAt (nthG field at_)).toNat) else none
theorem secF_nat (n : Nat) (h : n ≤ 40000) : secF (n : Int) = (secN n : Int) := by
  rw [secF, if_neg (by omega), Int.toNat_natCast]
theorem stand_some {t : Int} {field : List Blk} {at_ : Nat} {j : Int} {bs : List UInt8} (hl : bs.length ≤ 40000) (h : leavesF t j bs <+: field.drop at_) : standF t field at_ j = some bs := by
  obtain ⟨r, hr⟩ := h
  have h0 := leaves_get t j bs 0 (secN_pos _)
  have hlen : (leavesF t j bs).length = secN bs.length := leavesF_len _ _ _
  have hd : field.length - at_ = secN bs.length + r.length := by rw [← List.length_drop, ← hr, List.length_append, hlen]
  have hp := secN_pos bs.length
  have hn : nthG field at_ = leafF t j bs 0 := by
    have h1 : field[at_]? = some (leafF t j bs 0) := by
      have h2 : (field.drop at_)[0]? = some (leafF t j bs 0) := by rw [← hr, List.getElem?_append_left (by omega), h0]
      rwa [List.getElem?_drop, Nat.add_zero] at h2
    have h3 := nthG_get (xs := field) (k := at_) (by omega)
    exact Option.some.inj (h3.symm.trans h1)
  have hs : sizeAt (nthG field at_) = (bs.length : Int) := by rw [hn, sizeAt_leaf _ _ _ _ hl]
  have hf : (secF (sizeAt (nthG field at_))).toNat = secN bs.length := by rw [hs, secF_nat _ hl, Int.toNat_natCast]
  have ht : (field.drop at_).take (secN bs.length) = leavesF t j bs := by rw [← hr, List.take_left' hlen]
  have hg : (gather ((field.drop at_).take (secN bs.length))).take bs.length = bs := by rw [ht, gather_leaves]
  rw [standF, if_neg (by omega), hf, hs, Int.toNat_natCast, hg, ht, if_neg (by omega), if_pos rfl]
theorem stand_get {t : Int} {field : List Blk} {at_ : Nat} {j : Int} {bs : List UInt8} (h : standF t field at_ j = some bs) : bs.length ≤ 40000 ∧ leavesF t j bs <+: field.drop at_ := by
  rw [standF] at h
  split at h
  · cases h
  · split at h
    · cases h
    · rename_i h1 h2
      split at h
      · rename_i h3
        have hb := Option.some.inj h
        rw [hb] at h3
        have hr := sizeAt_range (nthG field at_)
        have h40 : (sizeAt (nthG field at_)).toNat ≤ 40000 := by
          unfold secF at h2
          split at h2
          · simp at h2
          · omega
        refine ⟨?_, by rw [h3]; exact List.take_prefix _ _⟩
        rw [← hb, List.length_take]; omega
      · cases h
theorem stand_none {t : Int} {field : List Blk} {at_ : Nat} {j : Int} (h : NoEntry t j (field.drop at_)) : standF t field at_ j = none := by
  cases hs : standF t field at_ j with
  | none => rfl
  | some bs => exact absurd (stand_get hs).2 (h bs (stand_get hs).1)
theorem stand_len {t : Int} {field : List Blk} {at_ : Nat} {j : Int} {bs : List UInt8} (h : standF t field at_ j = some bs) : at_ + secN bs.length ≤ field.length := by
  obtain ⟨r, hr⟩ := (stand_get h).2
  have h1 := congrArg List.length hr
  have h2 := secN_pos bs.length
  rw [List.length_append, leavesF_len, List.length_drop] at h1
  omega
def readF (t : Int) (field : List Blk) : Nat → Nat → Nat → List (List UInt8) × Nat
  | 0, at_, _ => ([], at_)
  | f + 1, at_, j => match standF t field at_ (j : Int) with
    | none => ([], at_)
    | some bs => (bs :: (readF t field f (at_ + secN bs.length) (j + 1)).1, (readF t field f (at_ + secN bs.length) (j + 1)).2)
theorem readF_none {t : Int} {field : List Blk} {at_ j : Nat} (h : standF t field at_ (j : Int) = none) : ∀ f, readF t field f at_ j = ([], at_)
  | 0 => rfl
  | f + 1 => by rw [readF, h]
def laidF (t : Int) : List (List UInt8) → Nat → List Blk
  | [], _ => []
  | b :: l, j => leavesF t (j : Int) b ++ laidF t l (j + 1)
theorem readF_laid {t : Int} (tail : List Blk) : ∀ (said : List (List UInt8)) (pre : List Blk) (j f : Nat), (∀ b ∈ said, b.length ≤ 40000) → (laidF t said j).length + tail.length ≤ f → NoEntry t ((j + said.length : Nat) : Int) tail →
    readF t (pre ++ (laidF t said j ++ tail)) f pre.length j = (said, pre.length + (laidF t said j).length) := by
  intro said
  induction said with
  | nil =>
    intro pre j f _ _ hn
    rw [laidF, List.nil_append]
    exact readF_none (stand_none (by rw [List.drop_left]; exact hn)) f
  | cons b l ih =>
    intro pre j f hl hf hn
    have hb := hl b (by simp)
    have hp := secN_pos b.length
    have hs : standF t (pre ++ (laidF t (b :: l) j ++ tail)) pre.length (j : Int) = some b := stand_some hb (by rw [List.drop_left, laidF, List.append_assoc]; exact ⟨_, rfl⟩)
    rw [laidF, List.length_append, leavesF_len] at hf
    cases f with
    | zero => omega
    | succ f =>
      have h1 := ih (pre ++ leavesF t (j : Int) b) (j + 1) f (fun x hx => hl x (by simp [hx])) (by omega) (by rw [show j + 1 + l.length = j + (b :: l).length from by rw [List.length_cons]; omega]; exact hn)
      rw [List.length_append, leavesF_len] at h1
      rw [readF, hs]
      simp only []
      have e : pre ++ (laidF t (b :: l) j ++ tail) = pre ++ leavesF t (j : Int) b ++ (laidF t l (j + 1) ++ tail) := by rw [laidF]; simp only [List.append_assoc]
      rw [e, h1]
      rw [show (laidF t (b :: l) j).length = secN b.length + (laidF t l (j + 1)).length from by rw [laidF, List.length_append, leavesF_len]]
      rw [Nat.add_assoc]
theorem laidF_snoc (t : Int) (b : List UInt8) : ∀ (l : List (List UInt8)) (j : Nat), laidF t (l ++ [b]) j = laidF t l j ++ leavesF t ((j + l.length : Nat) : Int) b
  | [], j => by simp [laidF]
  | x :: l, j => by rw [List.cons_append, laidF, laidF, laidF_snoc t b l (j + 1), List.append_assoc, List.length_cons, show j + 1 + l.length = j + (l.length + 1) from by omega]
structure LAct where
  kind : Int
  n : Int
  fill : UInt8
  p : Option Addr
  c : Nat
  keep : List Bool
abbrev cAct (x : LAct) : List Value := [.int .i64 x.kind, .int .i64 x.n, .int .u8 (x.fill.toNat : Int), .slice x.p x.keep.length x.c]
theorem dnew_dk (n : Int) (h : 1 ≤ n ∧ n ≤ 2048) (w0 : World) : Ret Tryz.prog 45 [.int .i64 n] w0 (fun _ => False) fun v w' => ∃ b m, v = .tuple ⟨[.pointer (some ⟨b, 0, none⟩), .int .i64 0]⟩ ∧ (dkI b m none 0 (newD n)).holds w' ∧ ∀ k, (dkI b m none 0 (newD n)).foot k → w0.heap.size ≤ k := by
  refine (dnew_c n h w0).mono fun v w' => ?_
  rintro ⟨b, m, rfl, hne, hb, hm, h1, h2⟩
  refine ⟨b, m, rfl, ⟨h1, ⟨h2, World.ownsRow_nil _ _ _ _, fun k _ ⟨ad, h, _⟩ => by cases h⟩, ?_⟩, ?_⟩
  · rintro k hk (hk2 | ⟨ad, h, _⟩)
    · exact hne ((show b = k from hk.symm).trans hk2)
    · cases h
  · rintro k (hk | hk | ⟨ad, h, _⟩)
    · exact (show k = b from hk) ▸ hb
    · exact (show k = m from hk) ▸ hm
    · cases h
instance (priority := 500) opPgE {P : Program} {l : Cx} {bs : List Wk.Item} {fs : List (World → Prop)} {x y : Operand} {t t' ty e : TypeId} {q : Option Addr} [Ev l x (.pointer q)] [Ev l y (.pointer none)] [Und P t (.pointer e)] : OpQ P (.binOp .eql t x y t') ty l bs fs (.bool q.isNone) := by
  cases q
  · exact opPnE
  · exact opPsE
theorem u32B_range (bs : List UInt8) : 0 ≤ u32B bs ∧ u32B bs ≤ 4294967295 := by
  unfold u32B IntKind.wrap
  simp only [IntKind.bits, IntKind.signed, Bool.false_and]
  simp; omega
theorem rdD_loose (s : DS) (k : Int) : (rdD s k).loose = s.loose := by
  unfold rdD
  split
  · show (askD s k false).loose = _; exact askD_loose s k false
  · exact askD_loose s k false
structure Bst where
  has : Bool
  n : Int
  t : Int
def ptB (b : Nat) (B : Bst) : Option Addr := if B.has then some ⟨b, 0, none⟩ else none
theorem ptB_none (b : Nat) (B : Bst) : (ptB b B).isNone = !B.has := by
  unfold ptB
  cases B.has <;> rfl
abbrev cBst (b : Nat) (B : Bst) : List Value := [.pointer (ptB b B), .int .i64 B.n, .int .u32 B.t]
def tellN (x : Blk) : Int := u32B (x.l.drop 4)
def tellT (x : Blk) : Int := u32B ((x.l.drop 4).drop 4)
def candF (s : DS) (i : Nat) (x : Blk) (B : Bst) : Bool := mayF s (tellN x) && decide (tellT x % 2 = (i : Int)) && decide (x.l = (titleF (tellT x) (tellN x)).l) && (!B.has || decide (B.t < tellT x))
def cntStep (s : DS) (i : Nat) (x : Blk) (B : Bst) : Bst := if candF s i x B then ⟨true, tellN x, tellT x⟩ else B
def cntR : Nat → Nat → DS → Bst → DS × Int × Bst
  | 0, _, s, B => if B.has then (s, 0, B) else (s, 140, ⟨false, 0, 0⟩)
  | k + 1, i, s, B => if askE s (i : Int) false = 0 then cntR k (i + 1) (rdD s i) (cntStep (rdD s i) i (rdB s i) B) else (rdD s i, askE s i false, ⟨false, 0, 0⟩)
def cntF (s : DS) : DS × Int × Bst := cntR 2 0 s ⟨false, 0, 0⟩
theorem counts_c (b m : Nat) (p : Option Addr) (c : Nat) (s : DS) (w0 : World) (hl : s.loose.length ≤ 999000) (hd : (dkI b m p c s).holds w0) :
    Ret Tryz.prog 146 [.pointer (some ⟨b, 0, none⟩)] w0 (dkI b m p c s).foot fun v w' => v = .tuple ⟨[.agg ⟨cBst b (cntF s).2.2⟩, .int .i64 (cntF s).2.1]⟩ ∧ ∃ p' c', (dkI b m p' c' (cntF s).1).holds w' ∧ ∀ i, (dkI b m p' c' (cntF s).1).foot i → (dkI b m p c s).foot i ∨ w0.heap.size ≤ i := by
  refine enter Tryz.func146 rfl rfl (Wd.itLent (x := dkI b m p c s) (fs := []) hd (by simp)) (fun a S => ?_)
  simp only [Tryz.ntmps146, List.length_cons, List.length_nil, Nat.reduceAdd, Nat.reduceSub, List.replicate_succ, List.replicate_zero, List.cons_append, List.nil_append] at S
  refine c_seq ?_; refine c_region ?_
  refine sa S ?_; clear S; intro b2 a w S
  refine sq S ?_; clear S; intro a S; refine wl_nil ?_; refine xtn ?_; refine c_seq ?_; refine c_region ?_
  refine sa S ?_; clear S; intro b4 a w S
  refine wl_nil ?_; refine xtn ?_; (iterate 2 (refine c_seq ?_)); refine c_region ?_; refine sq S ?_; clear S; intro a S; refine wl_nil ?_; refine xtn ?_; refine c_block ?_
  refine c_forf5 S (fun (i : Nat) (s' : DS) (p' : Option Addr) (c' : Nat) (B : Bst) uu => [(3, uu 3), (1, uu 5), (0, uu 6), (0, uu 7), (0, uu 8), (0, uu 9), (0, uu 10), (0, .int .i64 (i : Nat)), (0, uu 12), (0, uu 13), (0, uu 14), (0, uu 15), (0, uu 16), (0, uu 17), (0, uu 18), (0, uu 19), (0, uu 20), (0, uu 21), (0, uu 22), (0, uu 23), (0, uu 24), (0, uu 25), (0, uu 26), (0, uu 27), (0, uu 28), (0, uu 29), (0, uu 30), (0, uu 31), (0, uu 32), (0, uu 33), (0, uu 34), (0, uu 35), (0, uu 36), (0, uu 37), (0, uu 38), (0, uu 39), (0, uu 40), (0, uu 41), (0, uu 42), (0, uu 43), (0, uu 44), (0, uu 45), (0, uu 46), (0, uu 47), (0, uu 48), (0, uu 49), (0, uu 50), (0, uu 51), (0, uu 52), (0, uu 53), (0, uu 54), (0, uu 55), (0, uu 56), (0, uu 57), (0, uu 58), (0, uu 59), (0, uu 60), (0, uu 61), (0, uu 62), (0, uu 63)]) (fun (i : Nat) (s' : DS) (p' : Option Addr) (c' : Nat) (B : Bst) => [Wk.box b4 132 (cBst b B), Wk.box b2 132 [.pointer none, .int .i64 0, .int .u32 0], dkI b m p' c' s']) (fun (i : Nat) (s' : DS) (p' : Option Addr) (c' : Nat) (B : Bst) => i ≤ 2 ∧ cntF s = cntR (2 - i) i s' B ∧ s'.loose = s.loose) (fun (i : Nat) (s' : DS) (p' : Option Addr) (c' : Nat) (B : Bst) => 2 - i) (0) (s) (p) (c) (⟨false, 0, 0⟩) ?_ S.uu ?_ ?_
  · exact ⟨by omega, rfl, rfl⟩
  · exact S
  · clear S; rintro i s' p' c' B uu a w ⟨hi, hre, hsl⟩ S
    refine c_seq ?_; refine c_region ?_; refine sq S ?_; clear S; intro a S; refine wl_nil ?_; refine xtn ?_; refine c_seq ?_
    refine c_cond S (fun h3 => ?_) (fun h3 => ?_)
    · refine c_skip ?_; refine xtn ?_; refine c_seq ?_; refine c_block ?_; refine c_seq ?_
      have hi2 : i < 2 := by have := of_decide_eq_true h3; omega
      rw [show 2 - i = (2 - (i + 1)) + 1 from by omega, cntR] at hre
      refine c_region ?_; (iterate 2 (refine sq S ?_; clear S; intro a S)); refine wl_nil ?_; refine xtn ?_; refine c_seq ?_; refine c_region ?_; (iterate 2 (refine sq S ?_; clear S; intro a S))
      refine sit (dkI b m p' c' s') S (dread_c b m p' c' s' (i : Int) _ (by rw [hsl]; omega) (S.it (dkI b m p' c' s'))) rfl ?_; clear S; rintro _ a w ⟨rfl, p2, c2, hh, hn⟩ hS
      have S := hS (dkI b m p2 c2 (rdD s' i)) hh hn
      clear hS
      (iterate 3 (refine sq S ?_; clear S; intro a S))
      refine sa S ?_; clear S; intro b6 a w S
      refine sw S ?_; clear S; intro a w S
      obtain ⟨x, hx⟩ : ∃ x, x = rdB s' i := ⟨_, rfl⟩
      rw [← hx] at S hre
      refine sq S ?_; clear S; intro a S; refine wl_nil ?_; refine xtn ?_; (iterate 2 (refine c_seq ?_)); refine c_region ?_; (iterate 2 (refine sq S ?_; clear S; intro a S)); refine wl_nil ?_; refine xtn ?_
      refine c_cond S (fun h6 => ?_) (fun h6 => ?_)
      · refine c_seq ?_; refine c_region ?_; (iterate 2 (refine sq S ?_; clear S; intro a S)); refine sw S ?_; clear S; intro a w S; refine sq S ?_; clear S; intro a S; refine wl_nil ?_; refine xtn ?_; refine c_ret ?_; refine xtr ?_; refine xbr ?_; (iterate 2 (refine xtr ?_)); refine xbr ?_; refine xtr ?_
        have he : askE s' (i : Int) false ≠ 0 := by simpa using h6
        rw [if_neg he] at hre
        have h1 := S.itNew (dkI b m p2 c2 (rdD s' i)) rfl
        have hh := S.it (dkI b m p2 c2 (rdD s' i))
        refine end2 S (fun _ => ?_)
        rw [hre]
        exact ⟨rfl, p2, c2, hh, h1⟩
      · refine c_skip ?_; refine xtn ?_; refine c_seq ?_
        have hL1 : LeC 4 64 := ⟨by omega⟩
        have hL2 : LeC 64 64 := ⟨by omega⟩
        have he : askE s' (i : Int) false = 0 := by simpa using h6
        rw [if_pos he] at hre
        refine c_region ?_; refine sq S ?_; clear S; intro a S
        have hold := foots_lt S
        have hxl := x.h
        have hg : Stable (fun _ => False) w (GlF (some ⟨b6, 4, none⟩) (x.l.drop 4)) := (glStable (glBox (S.box b6))).imp fun _ h => h.drop 4 (c := 64) (by rw [x.h]; omega)
        refine snew S (oread_c (x.l.drop 4) (some ⟨b6, 4, none⟩) 60 60 _ (by rw [List.length_drop]; omega) (by omega) hg) ?_; clear S; rintro _ a w hsz ⟨br, q, e, rfl, hbr, hrd, hqe, hq⟩ hS -
        have S := hS (Wk.box br 238 [.slice q (x.l.drop 4).length e, .int .i64 0]) hrd (fun k hk => by rw [show k = br from hk]; exact hbr)
        clear hS
        replace S := St.addOld S hold hq
        have hd4 : (x.l.drop 4).length = 60 := by rw [List.length_drop]; omega
        have hd8 : (x.l.drop 4).length - 4 = ((x.l.drop 4).drop 4).length := by simp only [List.length_drop]
        refine sq S ?_; clear S; intro a S; refine wl_nil ?_; refine xtn ?_; refine c_seq ?_; refine c_region ?_; refine sq S ?_; clear S; intro a S
        refine sit (Wk.box br 238 [.slice q (x.l.drop 4).length e, .int .i64 0]) S (u32_c br (x.l.drop 4) q e _ (by omega) hqe (by omega) (S.box br) (S.lend (Wk.box br 238 [.slice q (x.l.drop 4).length e, .int .i64 0]) (S.mem.fact (GlF q (x.l.drop 4))))) rfl ?_; clear S; rintro _ a w ⟨rfl, hbx⟩ hS
        have S := hS (Wk.box br 238 [.slice (if e = 4 then q else q.map (·.add (4 * 1))) ((x.l.drop 4).length - 4) (e - 4), .int .i64 0]) hbx (fun k h => .inl h)
        clear hS
        replace S := S.add (Φ := GlF (if e = 4 then q else q.map (·.add (4 * 1))) ((x.l.drop 4).drop 4)) ((S.mem.fact (GlF q (x.l.drop 4))).imp fun _ h => h.drop 4 hqe)
        rw [hd8] at S
        obtain ⟨q2, hq2⟩ : ∃ q2, q2 = (if e = 4 then q else q.map (·.add (4 * 1))) := ⟨_, rfl⟩
        rw [← hq2] at S
        refine sq S ?_; clear S; intro a S
        have hur := u32B_range (x.l.drop 4)
        rw [w64 (u32B (x.l.drop 4)) (by omega) (by omega)] at S
        refine sq S ?_; clear S; intro a S
        refine sit (Wk.box br 238 [.slice q2 ((x.l.drop 4).drop 4).length (e - 4), .int .i64 0]) S (u32_c br ((x.l.drop 4).drop 4) q2 (e - 4) _ (by omega) (by omega) (by omega) (S.box br) (S.lend (Wk.box br 238 [.slice q2 ((x.l.drop 4).drop 4).length (e - 4), .int .i64 0]) (S.mem.fact (GlF q2 ((x.l.drop 4).drop 4))))) rfl ?_; clear S; rintro _ a w ⟨rfl, hbx⟩ hS
        have S := hS (Wk.box br 238 [.slice (if e - 4 = 4 then q2 else q2.map (·.add (4 * 1))) (((x.l.drop 4).drop 4).length - 4) (e - 4 - 4), .int .i64 0]) hbx (fun k h => .inl h)
        clear hS
        (iterate 2 (refine sq S ?_; clear S; intro a S)); refine wl_nil ?_; refine xtn ?_; refine c_seq ?_
        rw [show u32B (x.l.drop 4) = tellN x from rfl, show u32B ((x.l.drop 4).drop 4) = tellT x from rfl] at S
        have hn2 : 0 ≤ tellN x ∧ tellN x ≤ 4294967295 := u32B_range _
        have ht2 : 0 ≤ tellT x ∧ tellT x ≤ 4294967295 := u32B_range _
        have hT : ∀ bs fs, CallV Tryz.prog 176 [.int .u32 (tellT x), .int .i64 (tellN x)] bs fs (vBlk (titleF (tellT x) (tellN x))) := fun bs fs => ⟨fun w _ => title_c (tellT x) (tellN x) ht2 hn2 w⟩
        refine c_drawD [(0, true), (1, true), (2, false), (3, true), (4, true), (5, true), (6, true), (7, true), (8, true), (9, true), (10, true), (11, true), (12, true), (13, true), (14, false), (15, true), (16, true), (17, true), (18, true), (19, true), (20, true), (21, true), (22, true), (23, true), (24, true), (25, true), (26, true), (27, true)] [] S ?_; clear S; intro w S
        (iterate 2 (refine dq S ?_; clear S; intro a S)); refine dl ?_
        have hdk : (dkI b m p2 c2 (rdD s' i)).holds w := S.it (dkI b m p2 c2 (rdD s' i))
        refine sr S (may_c b m p2 c2 (rdD s' i).loose.length (rdD s' i) (tellN x) _ (BoxF.stable hdk.1 (fun h => h))) ?_; clear S; rintro _ a w rfl S
        refine de S ?_; refine dq S ?_; clear S; intro a S; (iterate 5 (refine dqG S ?_; clear S; intro a S)); (iterate 2 (refine dq S ?_; clear S; intro a S)); (iterate 3 (refine dqG S ?_; clear S; intro a S)); refine dl ?_; refine gC S ?_; clear S; intro a w S; refine de S ?_; refine dqG S ?_; clear S; intro a S; (iterate 2 (refine dq S ?_; clear S; intro a S)); (iterate 9 (refine dqG S ?_; clear S; intro a S))
        refine dq S ?_; clear S; intro a S; refine dn ?_; refine xtn ?_
        refine c_cond S (fun h10 => ?_) (fun h10 => ?_)
        · refine c_region ?_; (iterate 4 (refine sq S ?_; clear S; intro a S)); refine sw S ?_; clear S; intro a w S; refine wl_nil ?_; refine xbn ?_; refine xtn ?_; refine c_region ?_; (iterate 2 (refine sq S ?_; clear S; intro a S)); refine wl_nil ?_; refine xtn ?_
          rw [show IntKind.i64.wrap ((i : Int) + 1) = ((i + 1 : Nat) : Int) from by rw [w64 _ (by omega) (by omega)]; rfl] at S
          have hc : cntStep (rdD s' i) i x B = ⟨true, tellN x, tellT x⟩ := by
            rw [Int.tmod_eq_emod_of_nonneg ht2.1, w64 _ (by omega) (by omega), ptB_none] at h10
            rw [cntStep, candF, if_pos h10]
          rw [hc] at hre
          refine ⟨i + 1, rdD s' i, p2, c2, ⟨true, tellN x, tellT x⟩, S.uu, ⟨by omega, hre, by rw [rdD_loose, hsl]⟩, S.sub [Wk.box b4 132 [.pointer (some ⟨b, 0, none⟩), .int .i64 (tellN x), .int .u32 (tellT x)], Wk.box b2 132 [.pointer none, .int .i64 0, .int .u32 0], dkI b m p2 c2 (rdD s' i)] [], by omega⟩
        · refine c_skip ?_; refine xbn ?_; refine xtn ?_; refine c_region ?_; (iterate 2 (refine sq S ?_; clear S; intro a S)); refine wl_nil ?_; refine xtn ?_
          rw [show IntKind.i64.wrap ((i : Int) + 1) = ((i + 1 : Nat) : Int) from by rw [w64 _ (by omega) (by omega)]; rfl] at S
          have hc : cntStep (rdD s' i) i x B = B := by
            rw [Int.tmod_eq_emod_of_nonneg ht2.1, w64 _ (by omega) (by omega), ptB_none] at h10
            rw [cntStep, candF, if_neg (by rw [h10]; exact Bool.false_ne_true)]
          rw [hc] at hre
          refine ⟨i + 1, rdD s' i, p2, c2, B, S.uu, ⟨by omega, hre, by rw [rdD_loose, hsl]⟩, S.sub _ _, by omega⟩
    · refine c_exit ?_; (iterate 2 (refine xte ?_)); refine xbe ?_; refine xtn ?_; (iterate 2 (refine c_seq ?_)); refine c_region ?_; (iterate 3 (refine sq S ?_; clear S; intro a S)); refine wl_nil ?_; refine xtn ?_
      refine c_cond S (fun h13 => ?_) (fun h13 => ?_)
      · refine c_seq ?_; refine c_region ?_; refine sq S ?_; clear S; intro a S; refine sw S ?_; clear S; intro a w S; refine sq S ?_; clear S; intro a S; refine wl_nil ?_; refine xtn ?_; refine c_ret ?_; refine xtr ?_
        have hi2 : i = 2 := by have := of_decide_eq_false h3; omega
        subst hi2
        rw [ptB_none] at h13
        have hB : B.has = false := by simpa using h13
        have h1 := S.itNew (dkI b m p' c' s') rfl
        have hh := S.it (dkI b m p' c' s')
        refine end2 S (fun _ => ?_)
        rw [hre, cntR, if_neg (by rw [hB]; exact Bool.false_ne_true)]
        exact ⟨rfl, p', c', hh, h1⟩
      · refine c_skip ?_; refine xtn ?_; refine c_seq ?_; refine c_region ?_; refine sq S ?_; clear S; intro a S; refine sw S ?_; clear S; intro a w S; refine sq S ?_; clear S; intro a S; refine wl_nil ?_; refine xtn ?_; refine c_ret ?_
        have hi2 : i = 2 := by have := of_decide_eq_false h3; omega
        subst hi2
        rw [ptB_none] at h13
        have hB : B.has = true := by simpa using h13
        have h1 := S.itNew (dkI b m p' c' s') rfl
        have hh := S.it (dkI b m p' c' s')
        refine end2 S (fun _ => ?_)
        rw [hre, cntR, if_pos hB]
        exact ⟨rfl, p', c', hh, h1⟩
instance (priority := 1190) opSliceArrG {P : Program} {t ty e : TypeId} {lc : Cx} {bs : List Wk.Item} {fs : List (World → Prop)} {x : Operand} {ol oh : Option Operand} {q : Option Addr} {k s o lo hi n sz by_ : Nat} {z : Value} [Ev lc x (.pointer (some (gAddr q k s o)))] [hl : EvB lc ol 0 lo] [hh : EvB lc oh n hi] [ht : Und P t (.array n e)] [TI P e z sz by_] [h2 : LeC hi n] [h3 : LeC lo hi] :
    OpQ P (.slice t x ol oh none) ty lc bs fs (.slice (some (if n = lo then gAddr q k s o else gAddr q k s (o + lo * sz))) (hi - lo) (n - lo)) := ⟨fun ρ w hf _ => by
  have hb : (Instr.sliceBounds false n n (ol.map ρ) (oh.map ρ) none).run P w = .ok (lo, hi, n) w := by
    rcases hh.eq with ⟨rfl, rfl⟩ | ⟨o2, kk2, rfl, h'⟩
    · rcases hl.eq with ⟨rfl, rfl⟩ | ⟨o3, kk3, rfl, h''⟩
      · simp [Instr.sliceBounds]
      · have e3 := hf.ev (x := o3) (v := .int kk3 (lo : Int))
        simp [Instr.sliceBounds, Sem.run_bind, e3, Go.Wk.run_sliceBound h3.le]
    · have e2 := hf.ev (x := o2) (v := .int kk2 (hi : Int))
      rcases hl.eq with ⟨rfl, rfl⟩ | ⟨o3, kk3, rfl, h''⟩
      · simp [Instr.sliceBounds, Sem.run_bind, e2, Go.Wk.run_sliceBound h2.le]
      · have e3 := hf.ev (x := o3) (v := .int kk3 (lo : Int))
        simp [Instr.sliceBounds, Sem.run_bind, e2, e3, Go.Wk.run_sliceBound h2.le, Go.Wk.run_sliceBound h3.le]
  have eX : ρ x = .pointer (some (gAddr q k s o)) := hf.ev
  simp [xop, execOp, Instr.sliceAt, eX, Sem.run_bind, run_und, Instr.sureAddr, hb, run_size, gAddr_add]⟩
theorem gl_elem {w : World} {q : Option Addr} {xs : List Blk} {k : Nat} (o : Nat) (hk : k < xs.length) (h : GlF q xs w) : GlF (some (gAddr q k 64 o)) ((nthG xs k).l.drop o) w := by
  refine ⟨⟨fun h => (by cases h), fun ad hp j u hj => ?_⟩, fun _ _ => trivial⟩
  obtain rfl := Option.some.inj hp
  rw [gAddr_add]
  have h1 := encL_dropG (nthG xs k).l o
  rw [show o * Enc.sz UInt8 = o from Nat.mul_one o] at h1
  rw [h1, List.getElem?_drop] at hj
  exact gl_cell h hk hj
theorem gl_block {w : World} {p : Option Addr} {bs : List UInt8} (h : GlF p bs w) (hl : 0 < bs.length) {ad : Addr} (hp : p = some ad) : ad.block < w.heap.size := by
  have h0 : 0 < (encL bs).length := by rw [encL_len]; exact Nat.mul_pos hl (by decide)
  have h1 := h.1.2 ad hp 0 _ (List.getElem?_eq_getElem h0)
  have h2 : (ad.add 0).block = ad.block := by unfold Addr.add; split <;> rfl
  unfold World.cell? at h1
  rw [h2] at h1
  cases hb : w.heap[ad.block]? with
  | none => rw [hb] at h1; cases h1
  | some o => exact (Array.getElem?_eq_some_iff.1 hb).1
theorem ent1_holds {w : World} {p : Option Addr} {c : Nat} {bs : List UInt8} (h1 : ∀ ad, p = some ad → ad.block < w.heap.size) (h2 : GlF p bs w) : (entI [⟨p, c, bs⟩]).holds w := fun x hx => by obtain rfl := List.mem_singleton.1 hx; exact ⟨h1, h2⟩
theorem gather_len (xs : List Blk) : (gather xs).length = 48 * xs.length := by
  induction xs with
  | nil => rfl
  | cons x xs ih =>
    have h1 := x.h
    have h2 : gather (x :: xs) = x.l.drop 16 ++ gather xs := rfl
    rw [h2, List.length_append, ih, List.length_drop, List.length_cons]; omega
theorem gather_snoc (xs : List Blk) (x : Blk) : gather (xs ++ [x]) = gather xs ++ x.l.drop 16 := by simp [gather]
theorem secF_bound (n : Int) : 0 ≤ secF n ∧ secF n ≤ 834 := by
  unfold secF
  split
  · omega
  · have := secN_le n.toNat (by omega); omega
theorem secF_size {n : Int} (h : 0 ≤ n) (h2 : (secF n).toNat ≠ 0) : n ≤ 40000 ∧ (secF n).toNat = secN n.toNat ∧ n.toNat ≤ 48 * (secF n).toNat := by
  have hm := secN_mul n.toNat
  unfold secF at h2 ⊢
  split at h2
  · exact absurd rfl h2
  · rename_i h3
    rw [if_neg h3, Int.toNat_natCast]
    exact ⟨by omega, rfl, hm⟩
theorem stands_c (b n : Nat) (turn : Int) (field : List Blk) (q : Option Addr) (e at_ j : Nat) (ht : 0 ≤ turn ∧ turn ≤ 4294967295) (hj : j ≤ 1000000) (hfl : field.length ≤ 1000) (hfe : field.length ≤ e) (hat : at_ ≤ 1000000) (w0 : World) (f0 : Stable (fun _ => False) w0 (GlF q field)) :
    Ret Tryz.prog 148 [.agg ⟨cBook b n turn⟩, .slice q field.length e, .int .i64 (at_ : Int), .int .i64 (j : Int)] w0 (fun _ => False) fun v w' =>
      (standF turn field at_ j = none ∧ v = .tuple ⟨[.slice none 0 0, .bool false]⟩) ∨
      (∃ bs p', standF turn field at_ j = some bs ∧ v = .tuple ⟨[.slice p' bs.length bs.length, .bool true]⟩ ∧ (entI [⟨p', bs.length, bs⟩]).holds w' ∧ ∀ k, (entI [⟨p', bs.length, bs⟩]).foot k → w0.heap.size ≤ k) := by
  refine enterM Tryz.func148 rfl rfl (Wd.begin (fs := [GlF q field]) (by simpa using f0)) (fun a S => ?_)
  simp only [Tryz.ntmps148, List.length_cons, List.length_nil, Nat.reduceAdd, Nat.reduceSub, List.replicate_succ, List.replicate_zero, List.cons_append, List.nil_append] at S
  refine c_seq ?_; refine c_region ?_
  refine sa S ?_; clear S; intro b4 a w S
  refine sa S ?_; clear S; intro b5 a w S
  refine sa S ?_; clear S; intro b6 a w S
  refine sa S ?_; clear S; intro b8 a w S
  refine sa S ?_; clear S; intro b9 a w S
  refine wl_nil ?_; refine xtn ?_; (iterate 2 (refine c_seq ?_)); refine c_region ?_; (iterate 4 (refine sq S ?_; clear S; intro a S)); refine wl_nil ?_; refine xtn ?_
  refine c_cond S (fun h1 => ?_) (fun h1 => ?_)
  · refine c_seq ?_; refine c_region ?_; (iterate 2 (refine sw S ?_; clear S; intro a w S)); refine wl_nil ?_; refine xtn ?_; refine c_ret ?_; refine xtr ?_
    have h : field.length ≤ at_ := by have := of_decide_eq_true h1; omega
    refine endM2 S (fun w hw => .inl ⟨by rw [standF, if_pos h], rfl⟩)
  · refine c_skip ?_; refine xtn ?_; refine c_seq ?_
    have hlt : at_ < field.length := by have := of_decide_eq_false h1; omega
    have hK : KLt at_ field.length := ⟨hlt⟩
    have hL1 : LeC 12 64 := ⟨by omega⟩
    have hL2 : LeC 64 64 := ⟨by omega⟩
    have hL3 : LeC 16 64 := ⟨by omega⟩
    obtain ⟨x, hx⟩ : ∃ x, x = nthG field at_ := ⟨_, rfl⟩
    have hxl := x.h
    refine c_region ?_; (iterate 4 (refine sq S ?_; clear S; intro a S))
    rw [show (Value.slice (some (if 64 = 12 then gAddr q at_ 64 0 else gAddr q at_ 64 (0 + 12 * 1))) (64 - 12) (64 - 12)) = .slice (some (gAddr q at_ 64 12)) 52 52 from rfl] at S
    have hold := foots_lt S
    refine snew S (oread_c (x.l.drop 12) (some (gAddr q at_ 64 12)) 52 52 _ (by rw [List.length_drop]; omega) (by omega) ((S.mem.fact (GlF q field)).imp (fun _ h => hx ▸ gl_elem 12 hlt h) |>.less fun _ _ h => h.elim)) ?_; clear S; rintro _ a w hsz ⟨br, qr, er, rfl, hbr, hrd, hqe, hq⟩ hS -
    have S := hS (Wk.box br 238 [.slice qr (x.l.drop 12).length er, .int .i64 0]) hrd (fun k hk => by rw [show k = br from hk]; exact hbr)
    clear hS
    replace S := St.addOld S hold hq
    have hd4 : (x.l.drop 12).length = 52 := by rw [List.length_drop]; omega
    refine sq S ?_; clear S; intro a S; refine wl_nil ?_; refine xtn ?_; refine c_seq ?_; refine c_region ?_; refine sq S ?_; clear S; intro a S
    refine sit (Wk.box br 238 [.slice qr (x.l.drop 12).length er, .int .i64 0]) S (u16_c br (x.l.drop 12) qr er _ (by omega) hqe (by omega) (S.box br) (S.lend (Wk.box br 238 [.slice qr (x.l.drop 12).length er, .int .i64 0]) (S.mem.fact (GlF qr (x.l.drop 12))))) rfl ?_; clear S; rintro _ a w ⟨rfl, hbx⟩ hS
    have S := hS (Wk.box br 238 [.slice (if er = 2 then qr else qr.map (·.add (2 * 1))) ((x.l.drop 12).length - 2) (er - 2), .int .i64 0]) hbx (fun k h => .inl h)
    clear hS
    refine sq S ?_; clear S; intro a S
    have hsr := sizeAt_range x
    rw [show u16B (x.l.drop 12) = sizeAt x from rfl] at S
    obtain ⟨sz, hsz2⟩ : ∃ sz : Nat, sizeAt x = (sz : Int) := ⟨(sizeAt x).toNat, by omega⟩
    rw [hsz2] at hsr
    rw [hsz2, w64 (sz : Int) (by omega) (by omega)] at S
    refine sq S ?_; clear S; intro a S; refine wl_nil ?_; refine xtn ?_; refine c_seq ?_; refine c_region ?_; refine sq S ?_; clear S; intro a S
    refine sr S (sectors_c (sz : Int) _) ?_; clear S; rintro _ a w rfl S
    have hsb := secF_bound (sz : Int)
    obtain ⟨M, hM⟩ : ∃ M : Nat, secF (sz : Int) = (M : Int) := ⟨(secF (sz : Int)).toNat, by omega⟩
    rw [hM] at S
    refine sq S ?_; clear S; intro a S; refine wl_nil ?_; refine xtn ?_; (iterate 2 (refine c_seq ?_)); refine c_region ?_; (iterate 3 (refine sq S ?_; clear S; intro a S)); (iterate 6 (refine gQ S ?_; clear S; intro a S)); refine sq S ?_; clear S; intro a S; refine wl_nil ?_; refine xtn ?_
    refine c_cond S (fun h6 => ?_) (fun h6 => ?_)
    · refine c_seq ?_; refine c_region ?_; (iterate 2 (refine sw S ?_; clear S; intro a w S)); refine wl_nil ?_; refine xtn ?_; refine c_ret ?_; refine xtr ?_
      have h : M = 0 ∨ field.length - at_ < M := by
        rw [w64 ((field.length : Int) - (at_ : Int)) (by omega) (by omega)] at h6
        simp at h6; omega
      refine endM2 S (fun w hw => .inl ⟨?_, rfl⟩)
      rw [standF, if_neg (by omega), ← hx, hsz2, hM, Int.toNat_natCast, if_pos h]
    · refine c_skip ?_; refine xtn ?_; refine c_seq ?_
      have hM2 : M ≠ 0 ∧ M ≤ field.length - at_ := by
        rw [w64 ((field.length : Int) - (at_ : Int)) (by omega) (by omega)] at h6
        simp at h6; omega
      have hss := secF_size (n := (sz : Int)) (by omega) (by rw [hM, Int.toNat_natCast]; exact hM2.1)
      rw [hM, Int.toNat_natCast, Int.toNat_natCast] at hss
      have hLa : LeC at_ (at_ + M) := ⟨by omega⟩
      have hLb : LeC (at_ + M) e := ⟨by omega⟩
      have hLc : LeC e e := ⟨Nat.le_refl _⟩
      refine c_region ?_; refine sq S ?_; clear S; intro a S; refine wl_nil ?_; refine xtn ?_; (iterate 2 (refine c_seq ?_)); refine c_region ?_; (iterate 5 (refine sq S ?_; clear S; intro a S))
      rw [show IntKind.i64.wrap ((at_ : Int) + (M : Int)) = ((at_ + M : Nat) : Int) from by rw [w64 _ (by omega) (by omega)]; rfl] at S
      refine sq S ?_; clear S; intro a S
      rw [show at_ + M - at_ = M from by omega] at S
      obtain ⟨q3, hq3⟩ : ∃ q3, q3 = (if e = at_ then q else q.map (·.add (at_ * 64))) := ⟨_, rfl⟩
      rw [← hq3] at S
      obtain ⟨part, hpart⟩ : ∃ part, part = (field.drop at_).take M := ⟨_, rfl⟩
      have hpl : part.length = M := by rw [hpart, List.length_take, List.length_drop]; omega
      have hg : ∀ w, GlF q field w → GlF q3 part w := fun w h => by rw [hpart, hq3]; exact (h.drop at_ hfe).take M
      replace S := S.add (Φ := GlF q3 part) ((S.mem.fact (GlF q field)).imp hg)
      (iterate 2 (refine sq S ?_; clear S; intro a S))
      replace S := S.addNil 5 1
      refine wl_nil ?_; refine xtn ?_; refine c_block ?_
      refine c_fore3 S (fun (k : Nat) (pr : Option Addr) (cr : Nat) uu => [(13, .slice pr (48 * k) cr), (1, uu 15), (32, .int .i64 (k : Nat)), (0, uu 49), (0, uu 50), (0, uu 51), (0, uu 52), (0, uu 53), (0, uu 54), (0, uu 55)]) (fun (k : Nat) (pr : Option Addr) (cr : Nat) => [Wk.row 5 1 pr (48 * k) cr (encL (gather (part.take k))), Wk.box b9 4 [.bool false], Wk.box b8 25 [.slice none 0 0], Wk.box b6 3 [.int .i64 (at_ : Int)], Wk.box b5 219 [.slice q field.length e], Wk.box b4 132 (cBook b n turn), marks []]) (fun (k : Nat) (pr : Option Addr) (cr : Nat) => [GlF q3 part, GlF q field]) (fun (k : Nat) (pr : Option Addr) (cr : Nat) => k ≤ M) (fun (k : Nat) (pr : Option Addr) (cr : Nat) => M - k) (0) (none) (0) ?_ S.uu ?_ ?_
      · exact Nat.zero_le _
      · exact S.sub [Wk.row 5 1 none 0 0 [], Wk.box b9 4 [.bool false], Wk.box b8 25 [.slice none 0 0], Wk.box b6 3 [.int .i64 (at_ : Int)], Wk.box b5 219 [.slice q field.length e], Wk.box b4 132 (cBook b n turn), marks []] [GlF q3 part, GlF q field]
      · clear S; rintro k pr cr uu a w hk S
        refine c_seq ?_; refine c_region ?_; refine sq S ?_; clear S; intro a S; refine wl_nil ?_; refine xtn ?_; refine c_seq ?_
        refine c_cond S (fun h10 => ?_) (fun h10 => ?_)
        · refine c_skip ?_; refine xtn ?_; refine c_seq ?_; refine c_block ?_; refine c_seq ?_
          have hk2 : k < M := by have := of_decide_eq_true h10; omega
          have hK2 : KLt k part.length := ⟨by omega⟩
          have hK3 : KLt k M := ⟨hk2⟩
          obtain ⟨y, hy⟩ : ∃ y, y = nthG part k := ⟨_, rfl⟩
          have hyl := y.h
          refine c_region ?_; (iterate 2 (refine sq S ?_; clear S; intro a S))
          rw [← hy] at S
          refine sa S ?_; clear S; intro b15 a w S
          refine sw S ?_; clear S; intro a w S; refine wl_nil ?_; refine xtn ?_; refine c_region ?_; (iterate 2 (refine sq S ?_; clear S; intro a S))
          rw [show (Value.slice (some (if 64 = 16 then (⟨b15, 0, none⟩ : Addr) else ⟨b15, 16 * 1, none⟩)) (64 - 16) (64 - 16)) = .slice (some ⟨b15, 16, none⟩) 48 48 from rfl] at S
          replace S := S.boxToF b15
          replace S := S.add (Φ := GlF (some ⟨b15, 16, none⟩) (y.l.drop 16)) ((S.mem.fact (BoxF b15 129 (encL y.l))).imp fun _ h => (glBox h).drop 16 (c := 64) (by rw [hyl]; omega))
          have hy48 : LenN (y.l.drop 16) 48 := ⟨by rw [List.length_drop]; omega⟩
          refine sap S (by simp only [maxLen]; omega) (by omega) ?_; clear S; rintro p3 c3 a w - S
          rw [← encL_append, hy, ← gather_snoc, ← take_snocG (by omega : k < part.length), show 48 * k + 48 = 48 * (k + 1) from by omega] at S
          refine sq S ?_; clear S; intro a S; refine wl_nil ?_; refine xbn ?_; refine xtn ?_; refine c_region ?_; (iterate 2 (refine sq S ?_; clear S; intro a S)); refine wl_nil ?_; refine xtn ?_
          rw [w64 ((k : Int) + 1) (by omega) (by omega)] at S
          exact ⟨k + 1, p3, c3, S.uu, hk2, S.sub _ _, by omega⟩
        · refine c_exit ?_; (iterate 2 (refine xte ?_)); refine xbe ?_; refine xtn ?_; refine c_seq ?_
          have hkM : k = M := by have := of_decide_eq_false h10; omega
          subst hkM
          rw [List.take_of_length_le (by omega : part.length ≤ k)] at S
          have hnew := S.rowNew pr (48 * k)
          have hrlt := row_foot_lt (S.row pr (48 * k))
          have hcr := own_le (S.row pr (48 * k))
          replace S := S.rowToGl pr (gather part) (e := 5) (sz := 1) (n := 48 * k) (c := cr) (fun _ _ _ _ => trivial)
          have hLd : LeC sz cr := ⟨by omega⟩
          have hLe : LeC sz sz := ⟨Nat.le_refl _⟩
          have hLf : LeC 0 sz := ⟨Nat.zero_le _⟩
          have hgl := gather_len part
          refine c_region ?_; (iterate 4 (refine sq S ?_; clear S; intro a S))
          obtain ⟨all, hall⟩ : ∃ all, all = (gather part).take sz := ⟨_, rfl⟩
          have hal : all.length = sz := by rw [hall, List.length_take]; omega
          have hg2 : ∀ w, GlF pr (gather part) w → GlF pr all w := fun w h => by rw [hall]; exact h.take sz
          replace S := S.add (Φ := GlF pr all) ((S.mem.fact (GlF pr (gather part))).imp hg2)
          refine sq S ?_; clear S; intro a S; refine wl_nil ?_; refine xtn ?_; (iterate 2 (refine c_seq ?_)); refine c_region ?_; (iterate 4 (refine sq S ?_; clear S; intro a S))
          rw [wu32 (j : Int) (by omega) (by omega)] at S
          refine sq S ?_; clear S; intro a S
          have hlt2 := foots_lt S
          refine sr S (leaves_f turn (j : Int) pr sz sz _) ?_; clear S; rintro _ a w ⟨g0, g1, g2, rfl, ⟨n0, n1, n2⟩, e0, e1, e2⟩ S
          replace S := S.add (Φ := BoxF g0 25 [.slice pr sz sz]) (BoxF.stable e0 (fun hm => by have := hlt2 _ hm; omega))
          replace S := S.add (Φ := BoxF g1 130 [.int .u32 turn]) (BoxF.stable e1 (fun hm => by have := hlt2 _ hm; omega))
          replace S := S.add (Φ := BoxF g2 130 [.int .u32 (j : Int)]) (BoxF.stable e2 (fun hm => by have := hlt2 _ hm; omega))
          refine wl_nil ?_; refine xtn ?_; refine c_block ?_
          subst hal
          have hxsl : (leavesF turn (j : Int) all).length = k := by rw [leavesF_len]; exact hss.2.1.symm
          have hst : standF turn field at_ j = if leavesF turn (j : Int) all = part then some all else none := by
            rw [standF, if_neg (by omega), ← hx, hsz2, hM, Int.toNat_natCast, Int.toNat_natCast, if_neg (by omega), ← hpart, ← hall]
          refine c_range (κ := Unit) (κx := Nat) (Ds := []) (leavesF turn (j : Int) all)
            (fun i _ => [Wk.box b9 4 [.bool false], Wk.box b8 25 [.slice none 0 0], Wk.box b6 3 [.int .i64 ((at_ + i : Nat) : Int)], Wk.box b5 219 [.slice q field.length e], Wk.box b4 132 (cBook b n turn), marks []])
            (fun _ _ => [BoxF g2 130 [.int .u32 (j : Int)], BoxF g1 130 [.int .u32 turn], BoxF g0 25 [.slice pr all.length all.length], GlF pr all, GlF pr (gather part), GlF q3 part, GlF q field])
            (fun i _ => part.take i = (leavesF turn (j : Int) all).take i)
            (fun i => [Wk.box b9 4 [.bool false], Wk.box b8 25 [.slice none 0 0], Wk.box b6 3 [.int .i64 ((at_ + i : Nat) : Int)], Wk.box b5 219 [.slice q field.length e], Wk.box b4 132 (cBook b n turn), marks []])
            (fun _ => [BoxF g2 130 [.int .u32 (j : Int)], BoxF g1 130 [.int .u32 turn], BoxF g0 25 [.slice pr all.length all.length], GlF pr all, GlF pr (gather part), GlF q3 part, GlF q field])
            (fun cd _ => cd = .ret ∧ leavesF turn (j : Int) all ≠ part) () S
            (fun M w1 hM hF _ => leaves_it turn (j : Int) ht (by omega) g0 g1 g2 all pr all.length (by omega) (Nat.le_refl _) w1 M hM (hF _ (by simp)) (hF _ (by simp)) (hF _ (by simp)) (hF _ (by simp))) ⟨rfl, rfl, rfl⟩ ?_ ?_ ?_ ?_
          · clear S
            rintro L D bL M' w1 i x2 vs ⟨⟩ W0 w hx2 hti hW0 hgr rfl
            have hik : i < k := by rw [← hxsl]; exact (List.getElem?_eq_some_iff.1 hx2).1
            have hpi : part[i]? = some (nthG field (at_ + i)) := by
              rw [hpart, List.getElem?_take, if_pos hik, List.getElem?_drop, nthG_get (by omega)]
            have hKi : KLt (at_ + i) field.length := ⟨by omega⟩
            refine ⟨_, inferInstance, fun a S => ?_⟩
            refine c_region ?_
            refine sa S ?_; clear S; intro b16 a w S
            refine sw S ?_; clear S; intro a w S; refine wl_nil ?_; refine xtn ?_
            refine rbegin (D := D) (b := bL) S ?_; clear S; intro a w S
            refine c_block ?_; (iterate 2 (refine c_seq ?_))
            refine c_drawD [(0, true), (1, true), (2, true), (3, true), (4, true), (5, true)] [] S ?_; clear S; intro w S
            (iterate 6 (refine dq S ?_; clear S; intro a S)); refine dn ?_; refine xtn ?_
            refine c_cond S (fun h17 => ?_) (fun h17 => ?_)
            · refine c_seq ?_; refine c_region ?_; (iterate 2 (refine sw S ?_; clear S; intro a w S)); refine wl_nil ?_; refine xtn ?_; refine c_ret ?_; refine xtr ?_; refine xbr ?_
              have hne : leavesF turn (j : Int) all ≠ part := by
                intro he
                rw [he, hpi] at hx2
                have := Option.some.inj hx2
                rw [this] at h17
                simp at h17
              refine rret (D := D) (b := bL) (S.sub [lpI L D (lpR bL .busy none), Wk.box b9 4 [.bool false], Wk.box b8 25 [.slice none 0 0], Wk.box b6 3 [.int .i64 ((at_ + i : Nat) : Int)], Wk.box b5 219 [.slice q field.length e], Wk.box b4 132 (cBook b n turn), marks []] [BoxF g2 130 [.int .u32 (j : Int)], BoxF g1 130 [.int .u32 turn], BoxF g0 25 [.slice pr all.length all.length], GlF pr all, GlF pr (gather part), GlF q3 part, GlF q field]) fun W hW => ⟨.inl rfl, i, ⟨rfl, hne⟩, hW⟩
            · refine c_skip ?_; refine xtn ?_; refine c_region ?_; (iterate 2 (refine sq S ?_; clear S; intro a S))
              rw [show IntKind.i64.wrap (((at_ + i : Nat) : Int) + 1) = ((at_ + (i + 1) : Nat) : Int) from by rw [w64 _ (by omega) (by omega)]; rfl] at S
              refine sw S ?_; clear S; intro a w S; refine wl_nil ?_; refine xbn ?_
              have hxe : x2 = nthG field (at_ + i) := Blk.ext' (by simpa using (by simpa using h17 : (nthG field (at_ + i)).l = x2.l).symm)
              refine rnext (D := D) (b := bL) (S.sub [lpI L D (lpR bL .busy none), Wk.box b9 4 [.bool false], Wk.box b8 25 [.slice none 0 0], Wk.box b6 3 [.int .i64 ((at_ + (i + 1) : Nat) : Int)], Wk.box b5 219 [.slice q field.length e], Wk.box b4 132 (cBook b n turn), marks []] [BoxF g2 130 [.int .u32 (j : Int)], BoxF g1 130 [.int .u32 turn], BoxF g0 25 [.slice pr all.length all.length], GlF pr all, GlF pr (gather part), GlF q3 part, GlF q field]) fun W hW => ⟨(), by rw [List.take_add_one, List.take_add_one, hti, hpi, hx2, hxe], hW⟩
          · clear S
            rintro D ⟨⟩ a w hti S
            replace S := S.join (Ds := [])
            refine xbn ?_; refine xtn ?_; refine c_seq ?_; refine c_region ?_; refine sq S ?_; clear S; intro a S; (iterate 2 (refine sw S ?_; clear S; intro a w S)); refine wl_nil ?_; refine xtn ?_; refine c_ret ?_
            have he : leavesF turn (j : Int) all = part := by
              rw [hxsl, List.take_of_length_le (by omega), List.take_of_length_le (by omega)] at hti
              exact hti.symm
            refine endM2 S (fun w hw => .inr ⟨all, pr, by rw [hst, if_pos he], rfl, ent1_holds (fun ad ha => ?_) (hw.facts (GlF pr all) (by simp)).now, fun k2 ⟨y, hy, ad, ha, hk2⟩ => ?_⟩)
            · exact gl_block (hw.facts (GlF pr (gather part)) (by simp)).now (by omega) ha
            · obtain rfl := List.mem_singleton.1 hy
              exact hk2 ▸ (hnew ad ha).elim (fun h => h.elim) id
          · rintro D i a w ⟨-, hne⟩ S
            replace S := S.join (Ds := [])
            repeat (first | refine xbr ?_ | refine xtr ?_)
            refine endM2 S (fun w hw => .inl ⟨?_, rfl⟩)
            rw [hst, if_neg hne]
          · rintro id D _ a w ⟨h, -⟩; cases h
end Go.Proofs.YtdakncgafdnjfaaGreat