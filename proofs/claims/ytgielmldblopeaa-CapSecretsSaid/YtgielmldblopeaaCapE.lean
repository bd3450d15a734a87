/- Package cap: a term as a box; going over boxes. -/
import Derived.Test.YtgielmldblopeaaCapD
namespace Go.Proofs.Ytgielmldblopeaa
open Go Go.Wk
set_option synthInstance.maxSize 100000
set_option synthInstance.maxHeartbeats 400000
set_option maxRecDepth 100000

structure LBox where
  user : Int
  group : Int
  term : LTerm
instance encBox : Enc LBox := ⟨7, fun b => .int .i64 b.user :: .int .i64 b.group :: b.term.cells, fun _ => rfl, fun x u hu => by
  rcases List.mem_cons.1 hu with rfl | hu
  · rfl
  · rcases List.mem_cons.1 hu with rfl | hu
    · rfl
    · exact encT.one x.term u hu⟩
instance layBox : Lay LBox := { encBox with
  dflt := ⟨0, 0, zeroL⟩
  inn := fun w b => LtIn w b.term
  mono := fun w w' x h hx => LtIn.mono h x.term hx }
instance : SzE LBox 7 := ⟨rfl, by decide⟩
abbrev cBox (b : LBox) : List Value := [.int .i64 b.user, .int .i64 b.group, .int .i64 b.term.kind, .int .i64 b.term.user, .int .i64 b.term.num, str b.term.text, .slice b.term.p b.term.kids.length b.term.cap]
instance {b : LBox} : CellsOf b [.int .i64 b.user, .int .i64 b.group, .int .i64 b.term.kind, .int .i64 b.term.user, .int .i64 b.term.num, str b.term.text, .slice b.term.p b.term.kids.length b.term.cap] := ⟨rfl⟩
abbrev vBox (b : LBox) : Value := .agg ⟨[.int .i64 b.user, .int .i64 b.group, .int .i64 b.term.kind, .int .i64 b.term.user, .int .i64 b.term.num, str b.term.text, .slice b.term.p b.term.kids.length b.term.cap]⟩
instance (priority := 850) hast_box {fs : List (World → Prop)} {b : LBox} [h : HasI fs b] : HasT fs b.term := ⟨fun M w hf => h.of M w hf⟩
/-- this term is a user's box, or a group's. -/
def IsBox (t : Term) (n g : Int) : Prop := (1 ≤ n ∧ n ≤ 6 ∧ g = 0 ∧ ∃ s, t = uBox s n) ∨ (1 ≤ g ∧ g ≤ 3 ∧ n = 0 ∧ ∃ s kt, t = gBox s kt g)
theorem rowS_inj {s s' : UInt8} {a b : Int} (ha : 0 ≤ a ∧ a ≤ 9) (hb : 0 ≤ b ∧ b ≤ 9) : rowS [s] a = rowS [s'] b ↔ s = s' ∧ a = b := by
  constructor
  · intro h
    simp only [rowS, List.cons_append, List.nil_append, List.cons.injEq, and_true] at h
    exact ⟨h.1, by have := u8_inj (a := 48 + a) (b := 48 + b) (by omega) (by omega) h.2; omega⟩
  · rintro ⟨rfl, rfl⟩; rfl
theorem cof_c (x : LTerm) (n g : Int) (hb : IsBox x.t n g) (w0 : World) (hf : Stable (fun _ => False) w0 (LtF x)) : Ret Try.prog 146 [vL x] w0 (fun _ => False) fun v _ => v = .tuple ⟨[vBox ⟨n, g, nthL x.kids 1⟩, .bool true]⟩ := by
  obtain ⟨nm, y, hxp⟩ : ∃ nm y, x.t = .pair (textT nm) y := by
    rcases hb with ⟨-, -, -, s, h⟩ | ⟨-, -, -, s, kt, h⟩ <;> exact ⟨_, _, h⟩
  obtain ⟨hk4, hk2, hx0, hx1⟩ := pair_shape hxp
  obtain ⟨hk1, htx⟩ := text_shape hx0
  have hK0 : KLt 0 x.kids.length := ⟨by omega⟩
  have hK1 : KLt 1 x.kids.length := ⟨by omega⟩
  have hu1 : LeC ([117] : List UInt8).length 1000 := ⟨by decide⟩
  have hg1 : LeC ([103] : List UInt8).length 1000 := ⟨by decide⟩
  have hcase : (1 ≤ n ∧ n ≤ 6 ∧ g = 0 ∧ nm = rowS [117] n ∧ (nthL x.kids 1).kind = 7 ∧ (nthL x.kids 1).user = n) ∨ (1 ≤ g ∧ g ≤ 3 ∧ n = 0 ∧ nm = rowS [103] g ∧ (nthL x.kids 1).kind = 6) := by
    rcases hb with ⟨h1, h2, h3, s, h⟩ | ⟨h1, h2, h3, s, kt, h⟩
    · rw [h] at hxp
      simp only [uBox, rowT, Term.pair, textT, Term.mk.injEq, true_and, List.cons.injEq, and_true] at hxp
      refine .inl ⟨h1, h2, h3, hxp.1.symm, ?_⟩
      rw [← hxp.2, (nthL x.kids 1).t_eq] at hx1
      simp only [sealT, Term.mk.injEq] at hx1
      exact ⟨hx1.1, hx1.2.1⟩
    · rw [h] at hxp
      simp only [gBox, rowT, Term.pair, textT, Term.mk.injEq, true_and, List.cons.injEq, and_true] at hxp
      refine .inr ⟨h1, h2, h3, hxp.1.symm, ?_⟩
      rw [← hxp.2, (nthL x.kids 1).t_eq] at hx1
      simp only [lockT, Term.mk.injEq] at hx1
      exact hx1.1
  refine enter Try.func146 rfl rfl (Wd.begin (fs := [LtF x]) (by simpa using hf)) (fun a S => ?_)
  simp only [Try.ntmps146, List.length_cons, List.length_nil, Nat.reduceAdd, Nat.reduceSub, List.replicate_succ, List.replicate_zero, List.cons_append, List.nil_append] at S
  refine c_seq ?_
  refine c_region ?_
  refine sa S ?_; clear S; intro b1 a w S
  refine sa S ?_; clear S; intro b2 a w S
  refine sq S ?_; clear S; intro a S
  refine wl_nil ?_
  refine xtn ?_
  iterate 2 (refine c_seq ?_)
  refine c_region ?_
  iterate 3 (refine sq S ?_; clear S; intro a S)
  rw [show (!decide (x.kind = 4)) = false from by simp [hk4]] at S
  refine sq S ?_; clear S; intro a S
  refine gT' S ?_
  refine sq S ?_; clear S; intro a S
  refine gT' S ?_
  refine sq S ?_; clear S; intro a S
  refine gT' S ?_
  refine sq S ?_; clear S; intro a S
  refine gT' S ?_
  refine sq S ?_; clear S; intro a S
  refine gT' S ?_
  refine sq S ?_; clear S; intro a S
  refine gT' S ?_
  refine sq S ?_; clear S; intro a S
  rw [show (!decide ((nthL x.kids 0).kind = 1)) = false from by simp [hk1]] at S
  refine sq S ?_; clear S; intro a S
  refine wl_nil ?_
  refine xtn ?_
  refine c_condF S ?_
  refine c_skip ?_
  refine xtn ?_
  refine c_seq ?_
  refine c_drawD [(0, true), (1, true), (2, true), (3, true), (4, true), (5, true), (6, true), (7, true), (8, true), (9, false), (10, true), (11, false)] [] S ?_; clear S; intro w S
  iterate 9 (refine dq S ?_; clear S; intro a S)
  refine dl ?_
  refine sa S ?_; clear S; intro b5 a w S
  refine de S ?_
  refine dq S ?_; clear S; intro a S
  refine dl ?_
  refine sw S ?_; clear S; intro a w S
  refine de S ?_
  refine dn ?_
  refine xtn ?_
  iterate 2 (refine c_seq ?_)
  refine c_region ?_
  refine sq S ?_; clear S; intro a S
  refine wl_nil ?_
  refine xtn ?_
  refine c_block ?_
  refine c_forb1 S (fun (j' : Nat) uu => [(3, uu 3), (2, .int .i64 (j' : Nat)), (22, uu 29), (0, uu 30), (0, uu 31), (0, uu 32), (0, uu 33), (0, uu 34), (0, uu 35), (0, uu 36), (0, uu 37), (0, uu 38), (0, uu 39), (0, uu 40), (0, uu 41), (0, uu 42), (0, uu 43), (0, uu 44), (0, uu 45), (0, uu 46), (0, uu 47), (0, uu 48)]) (fun (j' : Nat) => 1 ≤ j' ∧ j' ≤ 7 ∧ ∀ m : Nat, 1 ≤ m → m < j' → (nthL x.kids 0).text ≠ rowS [117] m) (fun (j' : Nat) => 7 - j') (1) ?_ S.uu ?_ ?_
  · exact ⟨Nat.le_refl _, by omega, fun m h1 h2 => by omega⟩
  · first | exact S | exact S.sub _ _
  · clear S; rintro j' uu a w ⟨hj1, hj7, hrel⟩ S
    iterate 2 (refine c_seq ?_)
    refine c_region ?_
    iterate 2 (refine sq S ?_; clear S; intro a S)
    refine wl_nil ?_
    refine xtn ?_
    refine c_cond S (fun h5 => ?_) (fun h5 => ?_)
    · refine c_skip ?_
      refine xtn ?_
      refine c_seq ?_
      refine c_block ?_
      refine c_seq ?_
      have hj6 : j' ≤ 6 := by simp at h5; omega
      have hD : Dig (j' : Nat) := ⟨by omega, by omega⟩
      refine c_region ?_
      iterate 2 (refine sq S ?_; clear S; intro a S)
      refine sc S ?_; clear S; intro a w S
      refine sq S ?_; clear S; intro a S
      refine wl_nil ?_
      refine xtn ?_
      refine c_cond S (fun h7 => ?_) (fun h7 => ?_)
      · refine c_seq ?_
        refine c_drawD [(0, true), (1, true), (2, true), (3, true), (4, true), (5, true), (6, true), (7, true), (8, true), (9, true), (10, true), (11, true), (12, false), (13, true)] [b2] S ?_; clear S; intro w S
        iterate 7 (refine dq S ?_; clear S; intro a S)
        iterate 4 (refine dqG S ?_; clear S; intro a S)
        refine dq S ?_; clear S; intro a S
        refine dl ?_
        refine sw S ?_; clear S; intro a w S
        refine de S ?_
        refine dq S ?_; clear S; intro a S
        refine dn ?_
        refine xtn ?_
        refine c_ret ?_
        refine xbr ?_
        iterate 2 (refine xtr ?_)
        refine xbr ?_
        refine xtr ?_
        have h7' : (nthL x.kids 0).text = rowS [117] j' := by simpa using h7
        rw [htx] at h7'
        rcases hcase with ⟨c1, c2, c3, c4, c5, c6⟩ | ⟨c1, c2, c3, c4, c5⟩
        · rw [c4, rowS_inj (by omega) (by omega)] at h7'
          obtain ⟨-, rfl⟩ := h7'
          subst c3
          refine end2 S (fun _ => ?_)
          simp [c5, c6]
        · rw [c4, rowS_inj (by omega) (by omega)] at h7'
          exact absurd h7'.1 (by decide)
      · refine c_skip ?_
        refine xbn ?_
        refine xtn ?_
        refine c_region ?_
        iterate 2 (refine sq S ?_; clear S; intro a S)
        rw [w64 _ (by omega) (by omega), show (j' : Int) + 1 = ((j' + 1 : Nat) : Int) from rfl] at S
        refine sq S ?_; clear S; intro a S
        refine wl_nil ?_
        refine xtn ?_
        refine ⟨j' + 1, S.uu, ⟨by omega, by omega, fun m h1 h2 => ?_⟩, S.sub _ _, by omega⟩
        rcases Nat.lt_or_ge m j' with h | h
        · exact hrel m h1 h
        · obtain rfl : m = j' := by omega
          simpa using h7
    · refine c_exit ?_
      iterate 2 (refine xte ?_)
      refine xbe ?_
      refine xtn ?_
      iterate 2 (refine c_seq ?_)
      refine c_region ?_
      refine sq S ?_; clear S; intro a S
      refine wl_nil ?_
      refine xtn ?_
      refine c_block ?_
      refine c_forb1 S (fun (j : Nat) uu => [(3, uu 3), (3, .int .i64 (j : Nat)), (41, uu 49), (0, uu 50), (0, uu 51), (0, uu 52), (0, uu 53), (0, uu 54), (0, uu 55), (0, uu 56), (0, uu 57), (0, uu 58), (0, uu 59), (0, uu 60), (0, uu 61), (0, uu 62)]) (fun (j : Nat) => 1 ≤ j ∧ j ≤ 4 ∧ ∀ m : Nat, 1 ≤ m → m < j → (nthL x.kids 0).text ≠ rowS [103] m) (fun (j : Nat) => 4 - j) (1) ?_ S.uu ?_ ?_
      · exact ⟨Nat.le_refl _, by omega, fun m h1 h2 => by omega⟩
      · first | exact S | exact S.sub _ _
      · clear S; rintro j uu a w ⟨hj1', hj4, hrel2⟩ S
        iterate 2 (refine c_seq ?_)
        refine c_region ?_
        iterate 2 (refine sq S ?_; clear S; intro a S)
        refine wl_nil ?_
        refine xtn ?_
        refine c_cond S (fun h10 => ?_) (fun h10 => ?_)
        · refine c_skip ?_
          refine xtn ?_
          refine c_seq ?_
          refine c_block ?_
          refine c_seq ?_
          have hj6 : j ≤ 3 := by simp at h10; omega
          have hD : Dig (j : Nat) := ⟨by omega, by omega⟩
          refine c_region ?_
          iterate 2 (refine sq S ?_; clear S; intro a S)
          refine sc S ?_; clear S; intro a w S
          refine sq S ?_; clear S; intro a S
          refine wl_nil ?_
          refine xtn ?_
          refine c_cond S (fun h12 => ?_) (fun h12 => ?_)
          · refine c_seq ?_
            refine c_drawD [(0, true), (1, true), (2, true), (3, true), (4, true), (5, true), (6, false), (7, true)] [b2] S ?_; clear S; intro w S
            iterate 6 (refine dq S ?_; clear S; intro a S)
            refine dl ?_
            refine sw S ?_; clear S; intro a w S
            refine de S ?_
            refine dq S ?_; clear S; intro a S
            refine dn ?_
            refine xtn ?_
            refine c_ret ?_
            refine xbr ?_
            iterate 2 (refine xtr ?_)
            refine xbr ?_
            refine xtr ?_
            have h7' : (nthL x.kids 0).text = rowS [103] j := by simpa using h12
            rw [htx] at h7'
            rcases hcase with ⟨c1, c2, c3, c4, c5, c6⟩ | ⟨c1, c2, c3, c4, c5⟩
            · rw [c4, rowS_inj (by omega) (by omega)] at h7'
              exact absurd h7'.1 (by decide)
            · rw [c4, rowS_inj (by omega) (by omega)] at h7'
              obtain ⟨-, rfl⟩ := h7'
              subst c3
              refine end2 S (fun _ => ?_)
              simp [c5]
          · refine c_skip ?_
            refine xbn ?_
            refine xtn ?_
            refine c_region ?_
            iterate 2 (refine sq S ?_; clear S; intro a S)
            rw [w64 _ (by omega) (by omega), show (j : Int) + 1 = ((j + 1 : Nat) : Int) from rfl] at S
            refine sq S ?_; clear S; intro a S
            refine wl_nil ?_
            refine xtn ?_
            refine ⟨j + 1, S.uu, ⟨by omega, by omega, fun m h1 h2 => ?_⟩, S.sub _ _, by omega⟩
            rcases Nat.lt_or_ge m j with h | h
            · exact hrel2 m h1 h
            · obtain rfl : m = j := by omega
              simpa using h12
        · refine c_exit ?_
          iterate 2 (refine xte ?_)
          refine xbe ?_
          refine xtn ?_
          refine c_seq ?_
          refine c_region ?_
          refine sq S ?_; clear S; intro a S
          refine sw S ?_; clear S; intro a w S
          refine sq S ?_; clear S; intro a S
          refine wl_nil ?_
          refine xtn ?_
          refine c_ret ?_
          exfalso
          have e5 : j' = 7 := by simp at h5; omega
          have e10 : j = 4 := by simp at h10; omega
          rcases hcase with ⟨c1, c2, c3, c4, c5, c6⟩ | ⟨c1, c2, c3, c4, c5⟩
          · exact hrel n.toNat (by omega) (by omega) (by rw [htx, c4, show ((n.toNat : Nat) : Int) = n from by omega])
          · exact hrel2 g.toNat (by omega) (by omega) (by rw [htx, c4, show ((g.toNat : Nat) : Int) = g from by omega])
def bxV (b : Nat) : Value := .func (.func 145) #[] ⟨[.pointer (some ⟨b, 0, none⟩)]⟩
theorem boxes_f (p : Option Addr) (n c : Nat) (w0 : World) : Ret Try.prog 107 [.slice p n c] w0 (fun _ => False) fun v w' => ∃ b, v = bxV b ∧ w0.heap.size ≤ b ∧ BoxF b 23 [.slice p n c] w' := by
  refine enter Try.func107 rfl rfl (Wd.start w0) (fun a S => ?_)
  simp only [Try.ntmps107, List.length_cons, List.length_nil, Nat.reduceAdd, Nat.reduceSub, List.replicate_succ, List.replicate_zero, List.cons_append, List.nil_append] at S
  refine c_seq ?_
  refine c_region ?_
  refine sa S ?_; clear S; intro b1 a w S
  refine sq S ?_; clear S; intro a S
  refine wl_nil ?_
  refine xtn ?_
  refine c_seq ?_
  refine c_region ?_
  iterate 2 (refine sq S ?_; clear S; intro a S)
  refine wl_nil ?_
  refine xtn ?_
  refine c_ret ?_
  have h1 := S.boxF b1
  have n1 := S.boxNew b1
  refine end1 S (fun _ => ?_)
  exact ⟨b1, rfl, n1.elim (fun h => h.elim) id, h1⟩
/-- the boxes of a list of terms. -/
structure Boxes (xs : List LTerm) (bs : List LBox) : Prop where
  len : bs.length = xs.length
  box : ∀ i, i < xs.length → IsBox (nthL xs i).t (nthG bs i).user (nthG bs i).group
  term : ∀ i, i < xs.length → (nthG bs i).term = nthL (nthL xs i).kids 1
theorem boxes_it (b : Nat) (xs : List LTerm) (bx : List LBox) (hbx : Boxes xs bx) (p : Option Addr) (c : Nat) (hl : xs.length ≤ 1000000) (w0 : World) (M : Nat → Prop) (hM : ∀ k, M k → k < w0.heap.size) (f1 : Stable M w0 (BoxF b 23 [.slice p xs.length c])) (f2 : Stable M w0 (LsF p 0 xs)) :
    IterRet Try.prog 145 [.pointer (some ⟨b, 0, none⟩)] w0 M (fun (y : LBox) vs _ _ => vs = [vBox y, .bool true]) bx := by
  intro L J Jx hy hJ
  have hF : ∀ Φ ∈ [BoxF b 23 [.slice p xs.length c], LsF p 0 xs], Stable M w0 Φ := by simp; exact ⟨f1, f2⟩
  refine (callsIn_wide (n := 0)).2 ?_
  refine enter Try.func145 rfl rfl (Wd.beginM (M := M) (fs := [BoxF b 23 [.slice p xs.length c], LsF p 0 xs]) hM hF) (fun a S => ?_)
  simp only [Try.ntmps145, List.length_cons, List.length_nil, Nat.reduceAdd, Nat.reduceSub, List.replicate_succ, List.replicate_zero, List.cons_append, List.nil_append] at S
  refine c_seq ?_
  refine c_region ?_
  iterate 3 (refine sq S ?_; clear S; intro a S)
  refine wl_nil ?_
  refine xtn ?_
  refine c_block ?_
  refine c_loop (ι := Nat) (fun k a w => k ≤ xs.length ∧ ∃ N w1, J k w1 ∧ ∃ uu : Nat → Value,  St w1 (fun _ => False) [] a w ((.func (.yield L) #[] #[]) :: (.pointer (some ⟨b, 0, none⟩)) :: uu 2 :: uu 3 :: uu 4 :: (.slice p xs.length c) :: (.int .i64 xs.length) :: (.int .i64 (k : Nat)) :: uu 8 :: uu 9 :: uu 10 :: uu 11 :: uu 12 :: uu 13 :: uu 14 :: uu 15 :: uu 16 :: uu 17 :: uu 18 :: []) [ext N] [BoxF b 23 [.slice p xs.length c], LsF p 0 xs]) (fun k => xs.length - k) 0 ?_ ?_
  · exact ⟨Nat.zero_le _, M, w0, hJ, S.uu, S⟩
  · clear S
    rintro k a w ⟨hk, N, w1, hJk, uu, S⟩
    refine c_seq ?_
    refine c_region ?_
    refine sq S ?_; clear S; intro a S
    refine wl_nil ?_
    refine xtn ?_
    refine c_seq ?_
    refine c_cond S (fun h1 => ?_) (fun h1 => ?_)
    · refine c_skip ?_
      refine xtn ?_
      refine c_seq ?_
      refine c_block ?_
      refine c_seq ?_
      have hkl : k < xs.length := by simp at h1; omega
      have hK : KLt k xs.length := ⟨hkl⟩
      have hg : bx[k]? = some (nthG bx k) := nthG_get (by rw [hbx.len]; exact hkl)
      have hbt : (⟨(nthG bx k).user, (nthG bx k).group, nthL (nthL xs k).kids 1⟩ : LBox) = nthG bx k := by rw [← hbx.term k hkl]
      refine c_region ?_
      iterate 2 (refine sq S ?_; clear S; intro a S)
      refine sa S ?_; clear S; intro b4 a w S
      refine sw S ?_; clear S; intro a w S
      refine wl_nil ?_
      refine xtn ?_
      refine c_seq ?_
      refine c_region ?_
      iterate 2 (refine sq S ?_; clear S; intro a S)
      refine sr S (cof_c (nthL xs k) (nthG bx k).user (nthG bx k).group (hbx.box k hkl) w (S.t0 _)) ?_; clear S; rintro _ a w rfl S
      rw [hbt] at S
      iterate 2 (refine sq S ?_; clear S; intro a S)
      refine sy S (M := M) (wI := w0) (fs0 := [BoxF b 23 [.slice p xs.length c], LsF p 0 xs]) hF (hy k _ _ w1 w hg hJk S.wd.agree rfl) ?_; clear S; intro ok N' a w2 hT hX S
      refine sq S ?_; clear S; intro a S
      refine wl_nil ?_
      refine xtn ?_
      refine c_cond S (fun h3 => ?_) (fun h3 => ?_)
      · refine c_ret ?_
        refine xbr ?_
        iterate 2 (refine xtr ?_)
        refine xbr ?_
        exact endI S ⟨w2, S.wd.agree, .inr (hX (by simpa using h3))⟩
      · refine c_skip ?_
        refine xbn ?_
        refine xtn ?_
        refine c_region ?_
        iterate 2 (refine sq S ?_; clear S; intro a S)
        refine wl_nil ?_
        refine xtn ?_
        rw [w64 ((k : Int) + 1) (by omega) (by omega)] at S
        exact ⟨k + 1, ⟨hkl, N', w2, hT (by simpa using h3), S.uu, S⟩, by omega⟩
    · refine c_exit ?_
      iterate 2 (refine xte ?_)
      refine xbe ?_
      refine endI S ⟨w1, S.wd.agree, .inl ?_⟩
      have h9 : k = xs.length := by simp at h1; omega
      rw [hbx.len, ← h9]; exact hJk
def placeF (b : LBox) : Int := if 0 < b.user then b.user else 6 + b.group
theorem place_c (b : LBox) (hg : 0 ≤ b.group ∧ b.group ≤ 1000) (w0 : World) : Ret Try.prog 108 [vBox b] w0 (fun _ => False) fun v _ => v = .int .i64 (placeF b) := by
  refine enter Try.func108 rfl rfl (Wd.start w0) (fun a S => ?_)
  simp only [Try.ntmps108, List.length_cons, List.length_nil, Nat.reduceAdd, Nat.reduceSub, List.replicate_succ, List.replicate_zero, List.cons_append, List.nil_append] at S
  refine c_seq ?_
  refine c_region ?_
  refine sa S ?_; clear S; intro b1 a w S
  refine sq S ?_; clear S; intro a S
  refine wl_nil ?_
  refine xtn ?_
  iterate 2 (refine c_seq ?_)
  refine c_region ?_
  iterate 3 (refine sq S ?_; clear S; intro a S)
  refine wl_nil ?_
  refine xtn ?_
  refine c_cond S (fun h1 => ?_) (fun h1 => ?_)
  · refine c_seq ?_
    refine c_region ?_
    iterate 3 (refine sq S ?_; clear S; intro a S)
    refine wl_nil ?_
    refine xtn ?_
    refine c_ret ?_
    refine xtr ?_
    refine end1 S (fun _ => ?_)
    rw [placeF, if_pos (by simpa using h1)]
  · refine c_skip ?_
    refine xtn ?_
    refine c_seq ?_
    refine c_region ?_
    iterate 3 (refine sq S ?_; clear S; intro a S)
    rw [w64 _ (by omega) (by omega)] at S
    refine sq S ?_; clear S; intro a S
    refine wl_nil ?_
    refine xtn ?_
    refine c_ret ?_
    refine end1 S (fun _ => ?_)
    rw [placeF, if_neg (by simpa using h1)]
class GrpOk (b : LBox) : Prop where
  lo : 0 ≤ b.group
  hi : b.group ≤ 1000
instance {b : LBox} {bs fs} [h : GrpOk b] : CallV Try.prog 108 [.agg ⟨[.int .i64 b.user, .int .i64 b.group, .int .i64 b.term.kind, .int .i64 b.term.user, .int .i64 b.term.num, str b.term.text, .slice b.term.p b.term.kids.length b.term.cap]⟩] bs fs (.int .i64 (placeF b)) := ⟨fun w _ => place_c b ⟨h.lo, h.hi⟩ w⟩
end Go.Proofs.Ytgielmldblopeaa
