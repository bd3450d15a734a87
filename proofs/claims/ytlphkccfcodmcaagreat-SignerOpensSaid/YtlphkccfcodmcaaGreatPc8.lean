/- 8: a part of this claim's texts, joined: SignP SignQ SignR SignS SignT SignU SignV SignW SignX RowSignB. -/
import Derived.Test.YtlphkccfcodmcaaGreatPc7
/- The laws of layer 10: what a disk holds. -/
namespace Go.Proofs.YtlphkccfcodmcaaGreat
open Go Go.Wk
set_option synthInstance.maxSize 100000
set_option synthInstance.maxHeartbeats 400000
set_option maxRecDepth 100000

/-- each sector is laid once. -/
def Nd (s : DS) : Prop := (s.firm.map Prod.fst).Nodup
/-- all sectors, behind a crash that keeps all, or nothing. -/
def heldF (s : DS) (all : Bool) : List Blk := (List.range s.size.toNat).map fun (i : Nat) => holdsF (crashD (List.replicate s.loose.length all) s) (i : Int)
theorem heldF_len (s : DS) (all : Bool) : (heldF s all).length = s.size.toNat := by simp [heldF]
theorem settle_same {f g : List (Int × Blk)} (h : ∀ j, getB j f = getB j g) (st : Nat → Bool) (l : List LWr) : ∀ (k : Nat) (j : Int), getB j (settleK st l f k) = getB j (settleK st l g k)
  | 0, j => h j
  | k + 1, j => by
    rw [settleK, settleK]
    split
    · rw [getB_put, getB_put, settle_same h st l k j]
    · exact settle_same h st l k j
theorem crash_copy (l : List Bool) {s : DS} {dn : List (Int × Blk)} (hn : Nd s) (hp : dn.Perm s.firm) (j : Int) : holdsF (crashD l (copD s (putAll dn []))) j = holdsF (crashD l s) j := by
  have hg : ∀ j, getB j (putAll dn []) = getB j s.firm := fun j => by
    have hnd : (dn.map Prod.fst).Nodup := ((hp.map _).nodup_iff).2 hn
    rw [get_putAll j dn [] hnd, get_perm j hp hnd, show getB j [] = none from rfl, Option.or_none]
  rw [holds_firm (s := crashD l (copD s (putAll dn []))) rfl, holds_firm (s := crashD l s) rfl]
  show (getB j (settleK (keepF l) s.loose (putAll dn []) s.loose.length)).getD zB = (getB j (settleK (keepF l) s.loose s.firm s.loose.length)).getD zB
  rw [settle_same hg]
theorem enc_setBo (l1 l2 : List Bool) (x y : Bool) : (encL (l1 ++ y :: l2)).take l1.length ++ [Value.bool x] ++ (encL (l1 ++ y :: l2)).drop (l1.length + [Value.bool x].length) = encL (l1 ++ x :: l2) := by
  have h1 : (encL l1).length = l1.length := by rw [encL_len]; exact Nat.mul_one _
  have e : encL (l1 ++ y :: l2) = encL l1 ++ (.bool y :: encL l2) := by rw [encL_append, encL_cons]; rfl
  have e2 : encL (l1 ++ x :: l2) = encL l1 ++ (.bool x :: encL l2) := by rw [encL_append, encL_cons]; rfl
  rw [e, e2, ← h1, List.take_left, List.drop_append, List.drop_of_length_le (by omega), List.nil_append, List.length_singleton, show (encL l1).length + 1 - (encL l1).length = 1 from by omega]
  simp
theorem encBo_rep : ∀ n : Nat, encL (List.replicate n false) = (List.replicate n [Value.bool false]).flatten
  | 0 => rfl
  | n + 1 => by rw [List.replicate_succ, encL_cons, List.replicate_succ, List.flatten_cons, encBo_rep n]; rfl
theorem held_c (b m : Nat) (p : Option Addr) (c : Nat) (s : DS) (all : Bool) (hl : s.loose.length ≤ 1000000) (hz : 1 ≤ s.size ∧ s.size ≤ 4096) (hn : Nd s) (w0 : World) (hd : (dkI b m p c s).holds w0) :
    Ret Tryz.prog 49 [.pointer (some ⟨b, 0, none⟩), .bool all] w0 (dkI b m p c s).foot fun v w' => ∃ q e, v = .slice q (heldF s all).length e ∧
      (both (Wk.row 107 64 q (heldF s all).length e (encL (heldF s all))) (dkI b m p c s)).holds w' ∧ ∀ k, (both (Wk.row 107 64 q (heldF s all).length e (encL (heldF s all))) (dkI b m p c s)).foot k → (dkI b m p c s).foot k ∨ w0.heap.size ≤ k := by
  have hzn : s.size = (s.size.toNat : Int) := by omega
  refine enter Tryz.func49 rfl rfl (Wd.itLent (x := dkI b m p c s) (fs := []) hd (by simp)) (fun a S => ?_)
  simp only [Tryz.ntmps49, List.length_cons, List.length_nil, Nat.reduceAdd, Nat.reduceSub, List.replicate_succ, List.replicate_zero, List.cons_append, List.nil_append] at S
  refine c_seq ?_
  refine c_region ?_
  refine sq S ?_; clear S; intro a S
  refine wl_nil ?_
  refine xtn ?_
  refine c_seq ?_
  refine c_region ?_
  refine sq S ?_; clear S; intro a S
  refine sit (dkI b m p c s) S (copy_c b m p c s hl _ (S.it (dkI b m p c s))) rfl ?_; clear S; rintro _ a w ⟨b1, m1, p1, c1, gone, rfl, hperm, hh, hf⟩ hS
  have S := hS (both (dkI b m p c s) (dkI b1 m1 p1 c1 (copD s (putAll gone [])))) hh hf
  clear hS
  replace S := S.ofBoth
  obtain ⟨s1, hs1⟩ : ∃ s1, s1 = copD s (putAll gone []) := ⟨_, rfl⟩
  rw [← hs1] at S
  have hlo : s1.loose = s.loose := by rw [hs1]
  have hl1 : s1.loose.length ≤ 1000000 := by rw [hlo]; exact hl
  have hsz : s1.size = s.size := by rw [hs1]
  refine sq S ?_; clear S; intro a S
  refine wl_nil ?_
  refine xtn ?_
  refine c_seq ?_
  refine c_region ?_
  refine sq S ?_; clear S; intro a S
  have hd1 := S.it (dkI b1 m1 p1 c1 s1)
  refine sr S (pending_c b1 m1 p1 c1 s1 (by rw [hlo]; exact hl) _ (BoxF.stable hd1.1 (fun h => h)) (gl_own hd1.2.1.2.1 (fun _ _ _ _ => trivial) (fun _ _ h => h))) ?_; clear S; rintro _ a w ⟨q2, e2, rfl⟩ S
  refine sq S ?_; clear S; intro a S
  refine smk s1.loose.length S rfl rfl (by rw [hlo]; omega) (by rw [hlo]; simp only [maxLen]; omega) ?_; clear S; intro g a w S
  rw [show (List.replicate s1.loose.length [Value.bool false]).flatten = encL (List.replicate s1.loose.length false) from (encBo_rep _).symm] at S
  refine sq S ?_; clear S; intro a S
  refine wl_nil ?_
  refine xtn ?_
  iterate 2 (refine c_seq ?_)
  refine c_region ?_
  iterate 3 (refine sq S ?_; clear S; intro a S)
  refine wl_nil ?_
  refine xtn ?_
  refine c_block ?_
  refine c_fore1 S (fun (i : Nat) uu => [(7, uu 7), (12, .int .i64 (i : Nat)), (0, uu 21), (0, uu 22), (0, uu 23), (0, uu 24), (0, uu 25), (0, uu 26), (0, uu 27)]) (fun (i : Nat) => [Wk.row 4 1 (some ⟨g, 0, none⟩) s1.loose.length s1.loose.length (encL (List.replicate i all ++ List.replicate (s1.loose.length - i) false)), dkI b1 m1 p1 c1 s1, dkI b m p c s]) (fun (i : Nat) => []) (fun (i : Nat) => i ≤ s1.loose.length) (fun (i : Nat) => s1.loose.length - i) (0) ?_ S.uu ?_ ?_
  · exact Nat.zero_le _
  · replace S := S.front (dkI b1 m1 p1 c1 s1)
    replace S := S.front (Wk.row 4 1 (some ⟨g, 0, none⟩) s1.loose.length s1.loose.length (encL (List.replicate s1.loose.length false)))
    exact S
  · clear S; rintro i uu a w hi S
    refine c_seq ?_
    refine c_region ?_
    refine sq S ?_; clear S; intro a S
    refine wl_nil ?_
    refine xtn ?_
    refine c_seq ?_
    refine c_cond S (fun h4 => ?_) (fun h4 => ?_)
    · refine c_skip ?_
      refine xtn ?_
      refine c_seq ?_
      refine c_block ?_
      refine c_seq ?_
      have hil : i < s1.loose.length := by have := of_decide_eq_true h4; omega
      have hK : KLt i s1.loose.length := ⟨hil⟩
      refine c_region ?_
      iterate 2 (refine sq S ?_; clear S; intro a S)
      refine wl_nil ?_
      refine xtn ?_
      refine c_region ?_
      iterate 4 (refine sq S ?_; clear S; intro a S)
      rw [show (⟨g, i, none⟩ : Addr) = rAddr (some ⟨g, 0, none⟩) i from by rw [rAddr, Option.getD_some, add_lit]] at S
      refine sws S s1.loose.length (by omega) (by omega) ?_; clear S; intro a w S
      rw [show s1.loose.length - i = (s1.loose.length - (i + 1)) + 1 from by omega, List.replicate_succ] at S
      have he := enc_setBo (List.replicate i all) (List.replicate (s1.loose.length - (i + 1)) false) all false
      rw [List.length_replicate] at he
      rw [he, show List.replicate i all ++ all :: List.replicate (s1.loose.length - (i + 1)) false = List.replicate (i + 1) all ++ List.replicate (s1.loose.length - (i + 1)) false from by rw [List.replicate_succ', List.append_assoc]; rfl] at S
      refine wl_nil ?_
      refine xbn ?_
      refine xtn ?_
      refine c_region ?_
      iterate 2 (refine sq S ?_; clear S; intro a S)
      refine wl_nil ?_
      refine xtn ?_
      rw [w64 ((i : Int) + 1) (by omega) (by omega)] at S
      exact ⟨i + 1, S.uu, hil, S.sub _ _, by omega⟩
    · refine c_exit ?_
      iterate 2 (refine xte ?_)
      refine xbe ?_
      refine xtn ?_
      iterate 2 (refine c_seq ?_)
      have hie : i = s1.loose.length := by have := of_decide_eq_false h4; omega
      subst hie
      rw [Nat.sub_self, List.replicate_zero, List.append_nil] at S
      have hKl : (List.replicate s1.loose.length all).length = s1.loose.length := List.length_replicate
      replace S := S.rowToGl (some ⟨g, 0, none⟩) (List.replicate s1.loose.length all) (e := 4) (sz := 1) (n := s1.loose.length) (c := s1.loose.length) (fun _ _ _ _ => trivial)
      refine c_region ?_
      iterate 2 (refine sq S ?_; clear S; intro a S)
      have hcr := dcrash_c b1 m1 p1 c1 s1 (List.replicate s1.loose.length all) (some ⟨g, 0, none⟩) s1.loose.length w (by rw [hlo]; exact hl) (S.it (dkI b1 m1 p1 c1 s1)) (S.lend (dkI b1 m1 p1 c1 s1) (S.mem.fact (GlF (some ⟨g, 0, none⟩) (List.replicate s1.loose.length all))))
      rw [hKl] at hcr
      refine sit (dkI b1 m1 p1 c1 s1) S hcr rfl ?_; clear S; rintro _ a w ⟨rfl, hh2⟩ hS
      have S := hS (dkI b1 m1 none 0 (crashD (List.replicate s1.loose.length all) s1)) hh2 (fun k hk => .inl (crash_foot k hk))
      clear hS
      obtain ⟨u1, u2, u3, -, -⟩ := crash_any (List.replicate s1.loose.length all) s1
      have u4 : ∀ j, holdsF (crashD (List.replicate s1.loose.length all) s1) j = holdsF (crashD (List.replicate s.loose.length all) s) j := fun j => by rw [hlo, hs1]; exact crash_copy _ hn hperm j
      obtain ⟨s2, hs2⟩ : ∃ s2, s2 = crashD (List.replicate s1.loose.length all) s1 := ⟨_, rfl⟩
      rw [← hs2] at S u1 u2 u3 u4
      rw [hsz] at u3
      refine sq S ?_; clear S; intro a S
      refine wl_nil ?_
      refine xtn ?_
      refine c_condF S ?_
      refine c_skip ?_
      refine xtn ?_
      refine c_seq ?_
      refine c_region ?_
      refine sq S ?_; clear S; intro a S
      refine wl_nil ?_
      refine xtn ?_
      iterate 2 (refine c_seq ?_)
      refine c_region ?_
      refine sq S ?_; clear S; intro a S
      refine sr S (len_c b1 m1 none s2.loose.length 0 s2 _ (BoxF.stable (S.it (dkI b1 m1 none 0 s2)).1 (fun h => h))) ?_; clear S; rintro _ a w rfl S
      rw [u3, hzn] at S
      refine sq S ?_; clear S; intro a S
      refine wl_nil ?_
      refine xtn ?_
      refine c_block ?_
      replace S := S.addNil 107 64
      refine c_fore6 S (fun (i : Nat) (q : Option Addr) (e : Nat) (p3 : Option Addr) (c3 : Nat) (s3 : DS) uu => [(4, uu 4), (3, .slice q i e), (0, uu 9), (0, uu 10), (0, uu 11), (22, .int .i64 (i : Nat)), (0, uu 35), (0, uu 36), (0, uu 37), (0, uu 38), (0, uu 39), (0, uu 40), (0, uu 41), (0, uu 42), (0, uu 43), (0, uu 44), (0, uu 45), (0, uu 46), (0, uu 47), (0, uu 48), (0, uu 49)]) (fun (i : Nat) (q : Option Addr) (e : Nat) (p3 : Option Addr) (c3 : Nat) (s3 : DS) => [Wk.row 107 64 q i e (encL ((heldF s all).take i)), dkI b1 m1 p3 c3 s3, dkI b m p c s]) (fun (i : Nat) (q : Option Addr) (e : Nat) (p3 : Option Addr) (c3 : Nat) (s3 : DS) => []) (fun (i : Nat) (q : Option Addr) (e : Nat) (p3 : Option Addr) (c3 : Nat) (s3 : DS) => i ≤ s.size.toNat ∧ Up s3 ∧ s3.loose = [] ∧ s3.size = s.size ∧ ∀ j, holdsF s3 j = holdsF (crashD (List.replicate s.loose.length all) s) j) (fun (i : Nat) (q : Option Addr) (e : Nat) (p3 : Option Addr) (c3 : Nat) (s3 : DS) => s.size.toNat - i) (0) (none) (0) (none) (0) (s2) ?_ S.uu ?_ ?_
      · exact ⟨Nat.zero_le _, u1, u2, u3, u4⟩
      · exact S.sub [Wk.row 107 64 none 0 0 [], dkI b1 m1 none 0 s2, dkI b m p c s] []
      · clear S; rintro i q e p3 c3 s3 uu a w ⟨hi, v1, v2, v3, v4⟩ S
        refine c_seq ?_
        refine c_region ?_
        refine sq S ?_; clear S; intro a S
        refine wl_nil ?_
        refine xtn ?_
        refine c_seq ?_
        refine c_cond S (fun h12 => ?_) (fun h12 => ?_)
        · refine c_skip ?_
          refine xtn ?_
          refine c_seq ?_
          refine c_block ?_
          refine c_seq ?_
          have hil : i < s.size.toNat := by have := of_decide_eq_true h12; omega
          refine c_region ?_
          iterate 2 (refine sq S ?_; clear S; intro a S)
          refine wl_nil ?_
          refine xtn ?_
          refine c_seq ?_
          refine c_region ?_
          iterate 2 (refine sq S ?_; clear S; intro a S)
          obtain ⟨r1, r2, r3⟩ := rd_up v1 (k := (i : Int)) (by omega)
          refine sit (dkI b1 m1 p3 c3 s3) S (dread_c b1 m1 p3 c3 s3 (i : Int) _ (by rw [v2]; simp) (S.it (dkI b1 m1 p3 c3 s3))) rfl ?_; clear S; rintro _ a w ⟨rfl, p4, c4, hh4, hf4⟩ hS
          have S := hS (dkI b1 m1 p4 c4 (rdD s3 (i : Int))) hh4 hf4
          clear hS
          rw [r1, r2, v4, r3] at S
          obtain ⟨x, hx⟩ : ∃ x, x = holdsF (crashD (List.replicate s.loose.length all) s) (i : Int) := ⟨_, rfl⟩
          rw [← hx] at S
          iterate 3 (refine sq S ?_; clear S; intro a S)
          refine sa S ?_; clear S; intro b10 a w S
          refine sw S ?_; clear S; intro a w S
          refine sq S ?_; clear S; intro a S
          refine wl_nil ?_
          refine xtn ?_
          iterate 2 (refine c_seq ?_)
          refine c_region ?_
          iterate 2 (refine sq S ?_; clear S; intro a S)
          refine wl_nil ?_
          refine xtn ?_
          refine c_condF S ?_
          refine c_skip ?_
          refine xtn ?_
          refine c_region ?_
          iterate 2 (refine sq S ?_; clear S; intro a S)
          refine sn S ?_; clear S; intro b47 a w S
          replace S := S.boxRow b47 64 1 (by rw [x.len]) (by decide)
          refine sap S (by simp only [maxLen]; omega) (by omega) ?_; clear S; rintro p17 c17 a w - S
          have e1 : encL [x] = encL x.l := by rw [encL_cons]; exact List.append_nil _
          have htk : (heldF s all).take i ++ [x] = (heldF s all).take (i + 1) := by
            have hg : (heldF s all)[i]? = some x := by rw [heldF, List.getElem?_map, List.getElem?_range hil, hx]; rfl
            rw [List.take_add_one, hg]; rfl
          rw [show encL ((heldF s all).take i) ++ encL x.l = encL ((heldF s all).take (i + 1)) from by rw [← htk, encL_append, e1]] at S
          refine sq S ?_; clear S; intro a S
          refine wl_nil ?_
          refine xbn ?_
          refine xtn ?_
          refine c_region ?_
          iterate 2 (refine sq S ?_; clear S; intro a S)
          refine wl_nil ?_
          refine xtn ?_
          rw [w64 ((i : Int) + 1) (by omega) (by omega)] at S
          exact ⟨i + 1, p17, c17, p4, c4, opD s3, S.uu, ⟨hil, ⟨v1.on, v1.fit⟩, v2, v3, v4⟩, S.sub _ _, by omega⟩
        · refine c_exit ?_
          iterate 2 (refine xte ?_)
          refine xbe ?_
          refine xtn ?_
          refine c_seq ?_
          refine c_region ?_
          iterate 2 (refine sq S ?_; clear S; intro a S)
          refine wl_nil ?_
          refine xtn ?_
          refine c_ret ?_
          have hie : i = (heldF s all).length := by rw [heldF_len]; have := of_decide_eq_false h12; omega
          rw [hie, List.take_length] at S
          replace S := S.sub [Wk.row 107 64 q (heldF s all).length e (encL (heldF s all)), dkI b m p c s] []
          replace S := S.toBoth
          have h1 := S.it (both (Wk.row 107 64 q (heldF s all).length e (encL (heldF s all))) (dkI b m p c s))
          have h2 := S.itNew (both (Wk.row 107 64 q (heldF s all).length e (encL (heldF s all))) (dkI b m p c s)) rfl
          exact end1 S (fun _ => ⟨q, e, rfl, h1, h2⟩)
end Go.Proofs.YtlphkccfcodmcaaGreat

/- The laws of layer 10: two disks that hold the same. -/
namespace Go.Proofs.YtlphkccfcodmcaaGreat
open Go Go.Wk
set_option synthInstance.maxSize 100000
set_option synthInstance.maxHeartbeats 400000
set_option maxRecDepth 100000

instance opIdxFT {P : Program} {ty t e : TypeId} {l : Cx} {bs : List Wk.Item} {fs : List (World → Prop)} {x y : Operand} {kk : IntKind} {i : Nat} {z : Value} {by_ : Nat} [hx : Ev l x (.agg ⟨[.bool false, .bool true]⟩)] [hy : Ev l y (.int kk (i : Int))] [ht : Und P t (.array 2 e)] [hti : TI P e z 1 by_] [ha : AggT P e false] [hk : KLt i 2] : OpQ P (.index t x y) ty l bs fs (.bool (decide (i = 1))) := ⟨fun ρ w h _ =>
  run_idx [.bool false, .bool true] i _ (by have := hk.lt; rcases (show i = 0 ∨ i = 1 by omega) with rfl | rfl <;> rfl) rfl h w⟩
theorem alike_c (b1 m1 : Nat) (p1 : Option Addr) (c1 : Nat) (b2 m2 : Nat) (p2 : Option Addr) (c2 : Nat) (s : DS) (hl : s.loose.length ≤ 1000000) (hz : 1 ≤ s.size ∧ s.size ≤ 4096) (hn : Nd s) (w0 : World) (hd : (both (dkI b1 m1 p1 c1 s) (dkI b2 m2 p2 c2 s)).holds w0) :
    Ret Tryz.prog 22 [.pointer (some ⟨b1, 0, none⟩), .pointer (some ⟨b2, 0, none⟩)] w0 (both (dkI b1 m1 p1 c1 s) (dkI b2 m2 p2 c2 s)).foot fun v w' => v = .bool true ∧ (both (dkI b1 m1 p1 c1 s) (dkI b2 m2 p2 c2 s)).holds w' := by
  refine enter Tryz.func22 rfl rfl (Wd.it2Lent (x := dkI b1 m1 p1 c1 s) (y := dkI b2 m2 p2 c2 s) (fs := []) hd rfl rfl (by simp)) (fun a S => ?_)
  simp only [Tryz.ntmps22, List.length_cons, List.length_nil, Nat.reduceAdd, Nat.reduceSub, List.replicate_succ, List.replicate_zero, List.cons_append, List.nil_append] at S
  refine c_seq ?_
  refine c_region ?_
  refine sq S ?_; clear S; intro a S
  refine wl_nil ?_
  refine xtn ?_
  iterate 2 (refine c_seq ?_)
  refine c_region ?_
  refine sq S ?_; clear S; intro a S
  refine sr S (dead_c b1 m1 p1 s.loose.length c1 s _ (BoxF.stable (S.it (dkI b1 m1 p1 c1 s)).1 (fun h => h))) ?_; clear S; rintro _ a w rfl S
  refine sq S ?_; clear S; intro a S
  refine sr S (dead_c b2 m2 p2 s.loose.length c2 s _ (BoxF.stable (S.it (dkI b2 m2 p2 c2 s)).1 (fun h => h))) ?_; clear S; rintro _ a w rfl S
  refine sq S ?_; clear S; intro a S
  rw [show (!decide (s.out = s.out)) = false from by simp] at S
  refine sq S ?_; clear S; intro a S
  refine gT' S ?_
  refine sq S ?_; clear S; intro a S
  refine gT' S ?_
  refine sr S (dops_c b1 m1 p1 s.loose.length c1 s _ (BoxF.stable (S.it (dkI b1 m1 p1 c1 s)).1 (fun h => h))) ?_; clear S; rintro _ a w rfl S
  refine gT' S ?_
  refine sq S ?_; clear S; intro a S
  refine gT' S ?_
  refine sr S (dops_c b2 m2 p2 s.loose.length c2 s _ (BoxF.stable (S.it (dkI b2 m2 p2 c2 s)).1 (fun h => h))) ?_; clear S; rintro _ a w rfl S
  refine gT' S ?_
  refine sq S ?_; clear S; intro a S
  rw [show (!decide (s.ops = s.ops)) = false from by simp] at S
  iterate 2 (refine sq S ?_; clear S; intro a S)
  refine gT' S ?_
  refine sq S ?_; clear S; intro a S
  refine gT' S ?_
  have hd1 := S.it (dkI b1 m1 p1 c1 s)
  refine sr S (pending_c b1 m1 p1 c1 s hl _ (BoxF.stable hd1.1 (fun h => h)) (gl_own hd1.2.1.2.1 (fun _ _ _ _ => trivial) (fun _ _ h => h))) ?_; clear S; rintro _ a w ⟨q1, e1, rfl⟩ S
  refine gT' S ?_
  refine sq S ?_; clear S; intro a S
  refine gT' S ?_
  refine sq S ?_; clear S; intro a S
  refine gT' S ?_
  have hd1 := S.it (dkI b2 m2 p2 c2 s)
  refine sr S (pending_c b2 m2 p2 c2 s hl _ (BoxF.stable hd1.1 (fun h => h)) (gl_own hd1.2.1.2.1 (fun _ _ _ _ => trivial) (fun _ _ h => h))) ?_; clear S; rintro _ a w ⟨q2, e2, rfl⟩ S
  refine gT' S ?_
  refine sq S ?_; clear S; intro a S
  refine gT' S ?_
  refine sq S ?_; clear S; intro a S
  rw [show (!decide ((s.loose.length : Int) = (s.loose.length : Int))) = false from by simp] at S
  refine sq S ?_; clear S; intro a S
  refine wl_nil ?_
  refine xtn ?_
  refine c_condF S ?_
  refine c_skip ?_
  refine xtn ?_
  iterate 2 (refine c_seq ?_)
  refine c_region ?_
  iterate 2 (refine sq S ?_; clear S; intro a S)
  refine wl_nil ?_
  refine xtn ?_
  refine c_block ?_
  refine c_fore1 S (fun (i : Nat) uu => [(4, uu 4), (1, uu 6), (0, uu 7), (0, uu 8), (0, uu 9), (22, .int .i64 (i : Nat)), (0, uu 33), (0, uu 34), (0, uu 35), (0, uu 36), (0, uu 37), (0, uu 38), (0, uu 39), (0, uu 40), (0, uu 41), (0, uu 42), (0, uu 43), (0, uu 44), (0, uu 45), (0, uu 46), (0, uu 47), (0, uu 48), (0, uu 49), (0, uu 50), (0, uu 51), (0, uu 52), (0, uu 53), (0, uu 54), (0, uu 55), (0, uu 56), (0, uu 57), (0, uu 58), (0, uu 59), (0, uu 60), (0, uu 61), (0, uu 62), (0, uu 63), (0, uu 64), (0, uu 65), (0, uu 66)]) (fun (i : Nat) => [dkI b1 m1 p1 c1 s, dkI b2 m2 p2 c2 s]) (fun (i : Nat) => []) (fun (i : Nat) => i ≤ 2) (fun (i : Nat) => 2 - i) (0) ?_ S.uu ?_ ?_
  · omega
  · exact S
  · clear S; rintro i uu a w hi S
    refine c_seq ?_
    refine c_region ?_
    refine sq S ?_; clear S; intro a S
    refine wl_nil ?_
    refine xtn ?_
    refine c_seq ?_
    refine c_cond S (fun h4 => ?_) (fun h4 => ?_)
    · refine c_skip ?_
      refine xtn ?_
      refine c_seq ?_
      refine c_block ?_
      refine c_seq ?_
      have hi2 : i < 2 := by have := of_decide_eq_true h4; omega
      have hK2 : KLt i 2 := ⟨hi2⟩
      refine c_region ?_
      iterate 2 (refine sq S ?_; clear S; intro a S)
      refine wl_nil ?_
      refine xtn ?_
      refine c_seq ?_
      refine c_region ?_
      iterate 2 (refine sq S ?_; clear S; intro a S)
      refine sit (dkI b1 m1 p1 c1 s) S (held_c b1 m1 p1 c1 s (decide (i = 1)) hl hz hn _ (S.it (dkI b1 m1 p1 c1 s))) rfl ?_; clear S; rintro _ a w ⟨q1, e1, rfl, hh1, hf1⟩ hS
      have S := hS (both (Wk.row 107 64 q1 (heldF s (decide (i = 1))).length e1 (encL (heldF s (decide (i = 1))))) (dkI b1 m1 p1 c1 s)) hh1 hf1
      clear hS
      replace S := S.front (both (Wk.row 107 64 q1 (heldF s (decide (i = 1))).length e1 (encL (heldF s (decide (i = 1))))) (dkI b1 m1 p1 c1 s))
      replace S := S.ofBoth
      replace S := S.rowToGl q1 (heldF s (decide (i = 1))) (e := 107) (sz := 64) (n := (heldF s (decide (i = 1))).length) (c := e1) (fun _ _ _ _ => trivial)
      iterate 2 (refine sq S ?_; clear S; intro a S)
      refine sit (dkI b2 m2 p2 c2 s) S (held_c b2 m2 p2 c2 s (decide (i = 1)) hl hz hn _ (S.it (dkI b2 m2 p2 c2 s))) rfl ?_; clear S; rintro _ a w ⟨q2, e2, rfl, hh2, hf2⟩ hS
      have S := hS (both (Wk.row 107 64 q2 (heldF s (decide (i = 1))).length e2 (encL (heldF s (decide (i = 1))))) (dkI b2 m2 p2 c2 s)) hh2 hf2
      clear hS
      replace S := S.front (both (Wk.row 107 64 q2 (heldF s (decide (i = 1))).length e2 (encL (heldF s (decide (i = 1))))) (dkI b2 m2 p2 c2 s))
      replace S := S.ofBoth
      replace S := S.rowToGl q2 (heldF s (decide (i = 1))) (e := 107) (sz := 64) (n := (heldF s (decide (i = 1))).length) (c := e2) (fun _ _ _ _ => trivial)
      have hln := heldF_len s (decide (i = 1))
      obtain ⟨xs, hxs⟩ : ∃ xs, xs = heldF s (decide (i = 1)) := ⟨_, rfl⟩
      rw [← hxs] at S hln
      iterate 2 (refine sq S ?_; clear S; intro a S)
      refine wl_nil ?_
      refine xtn ?_
      iterate 2 (refine c_seq ?_)
      refine c_region ?_
      iterate 3 (refine sq S ?_; clear S; intro a S)
      rw [show decide ((xs.length : Int) = 0) = false from decide_eq_false (by omega)] at S
      refine sq S ?_; clear S; intro a S
      refine gT' S ?_
      refine sq S ?_; clear S; intro a S
      refine gT' S ?_
      refine sq S ?_; clear S; intro a S
      refine gT' S ?_
      refine sq S ?_; clear S; intro a S
      refine gT' S ?_
      refine sq S ?_; clear S; intro a S
      refine gT' S ?_
      refine sq S ?_; clear S; intro a S
      rw [show (!decide ((xs.length : Int) = (xs.length : Int))) = false from by simp] at S
      refine sq S ?_; clear S; intro a S
      refine wl_nil ?_
      refine xtn ?_
      refine c_condF S ?_
      refine c_skip ?_
      refine xtn ?_
      refine c_seq ?_
      refine c_region ?_
      iterate 3 (refine sq S ?_; clear S; intro a S)
      refine wl_nil ?_
      refine xtn ?_
      refine c_block ?_
      refine c_fore1 S (fun (j : Nat) uu => [(4, uu 4), (4, uu 9), (43, .int .i64 (j : Nat)), (0, uu 54), (0, uu 55), (0, uu 56), (0, uu 57), (0, uu 58), (0, uu 59), (0, uu 60), (0, uu 61), (0, uu 62), (0, uu 63), (0, uu 64), (0, uu 65)]) (fun (j : Nat) => [dkI b1 m1 p1 c1 s, dkI b2 m2 p2 c2 s]) (fun (j : Nat) => [GlF q2 xs, GlF q1 xs]) (fun (j : Nat) => j ≤ xs.length) (fun (j : Nat) => xs.length - j) (0) ?_ S.uu ?_ ?_
      · exact Nat.zero_le _
      · exact (S.front (dkI b1 m1 p1 c1 s)).sub _ _
      · clear S; rintro j uu a w hj S
        refine c_seq ?_
        refine c_region ?_
        refine sq S ?_; clear S; intro a S
        refine wl_nil ?_
        refine xtn ?_
        refine c_seq ?_
        refine c_cond S (fun h10 => ?_) (fun h10 => ?_)
        · refine c_skip ?_
          refine xtn ?_
          refine c_seq ?_
          refine c_block ?_
          refine c_seq ?_
          have hjl : j < xs.length := by have := of_decide_eq_true h10; omega
          have hK : KLt j xs.length := ⟨hjl⟩
          refine c_region ?_
          iterate 2 (refine sq S ?_; clear S; intro a S)
          refine wl_nil ?_
          refine xtn ?_
          refine c_seq ?_
          refine c_drawD [(0, true), (1, true), (2, true), (3, true), (4, true), (5, true), (6, true), (7, true), (8, true)] [] S ?_; clear S; intro w S
          iterate 9 (refine dq S ?_; clear S; intro a S)
          rw [show (!decide ((nthG xs j).l = (nthG xs j).l)) = false from by simp] at S
          refine dn ?_
          refine xtn ?_
          refine c_condF S ?_
          refine c_skip ?_
          refine xbn ?_
          refine xtn ?_
          refine c_region ?_
          iterate 2 (refine sq S ?_; clear S; intro a S)
          refine wl_nil ?_
          refine xtn ?_
          rw [w64 ((j : Int) + 1) (by omega) (by omega)] at S
          exact ⟨j + 1, S.uu, hjl, S.sub _ _, by omega⟩
        · refine c_exit ?_
          iterate 2 (refine xte ?_)
          refine xbe ?_
          refine xbn ?_
          refine xtn ?_
          refine c_region ?_
          iterate 2 (refine sq S ?_; clear S; intro a S)
          refine wl_nil ?_
          refine xtn ?_
          rw [w64 ((i : Int) + 1) (by omega) (by omega)] at S
          exact ⟨i + 1, S.uu, hi2, S.sub _ _, by omega⟩
    · refine c_exit ?_
      iterate 2 (refine xte ?_)
      refine xbe ?_
      refine xtn ?_
      refine c_seq ?_
      refine c_region ?_
      refine sq S ?_; clear S; intro a S
      refine wl_nil ?_
      refine xtn ?_
      refine c_ret ?_
      replace S := S.toBoth
      have h1 := S.it (both (dkI b1 m1 p1 c1 s) (dkI b2 m2 p2 c2 s))
      exact end1 S (fun _ => ⟨rfl, h1⟩)
end Go.Proofs.YtlphkccfcodmcaaGreat

/- Disks: whatever is done, each sector is laid once, and the size stays. -/
namespace Go.Proofs.YtlphkccfcodmcaaGreat
open Go Go.Wk
set_option maxRecDepth 100000

/-- what is kept: each sector once, and the size. -/
def Kp (s s' : DS) : Prop := (Nd s → Nd s') ∧ s'.size = s.size
theorem Kp.refl (s : DS) : Kp s s := ⟨id, rfl⟩
theorem Kp.trans {a b c : DS} (h : Kp a b) (k : Kp b c) : Kp a c := ⟨fun x => k.1 (h.1 x), k.2.trans h.2⟩
theorem kp_of {s s' : DS} (h1 : s'.firm = s.firm) (h2 : s'.size = s.size) : Kp s s' := ⟨fun h => by rw [Nd, h1]; exact h, h2⟩
theorem put_keys (k : Int) (v : Blk) : ∀ f : List (Int × Blk), (putB k v f).map Prod.fst = if k ∈ f.map Prod.fst then f.map Prod.fst else f.map Prod.fst ++ [k]
  | [] => by simp [putB]
  | (u, x) :: f => by
    rw [putB]
    by_cases h : k = u
    · subst h; simp
    · rw [if_neg h, List.map_cons, put_keys k v f, List.map_cons]
      by_cases h2 : k ∈ f.map Prod.fst
      · rw [if_pos h2, if_pos (List.mem_cons_of_mem _ h2)]
      · rw [if_neg h2, if_neg (by simp only [List.mem_cons, not_or]; exact ⟨h, h2⟩)]; rfl
theorem put_nd {k : Int} {v : Blk} {f : List (Int × Blk)} (h : (f.map Prod.fst).Nodup) : ((putB k v f).map Prod.fst).Nodup := by
  rw [put_keys]
  split
  · exact h
  · rename_i hn
    exact List.nodup_append.2 ⟨h, by simp, fun x hx y hy hxy => hn (by obtain rfl := List.mem_singleton.1 hy; exact hxy ▸ hx)⟩
theorem settle_nd {st : Nat → Bool} {l : List LWr} {f : List (Int × Blk)} (h : (f.map Prod.fst).Nodup) : ∀ k, ((settleK st l f k).map Prod.fst).Nodup
  | 0 => h
  | k + 1 => by
    rw [settleK]
    split
    · exact put_nd (settle_nd h k)
    · exact settle_nd h k
theorem kp_settle (st : Nat → Bool) (s : DS) : Kp s (settleD st s) := ⟨fun h => settle_nd h _, rfl⟩
theorem kp_ask (s : DS) (k : Int) (b : Bool) : Kp s (askD s k b) := kp_of (askD_same s k b).firm (askD_same s k b).size
theorem kp_op (s : DS) : Kp s (opD s) := kp_of rfl rfl
theorem kp_asked (g : DS → DS) (hg : ∀ s, Kp s (g s)) (s : DS) (k : Int) : Kp s (askedD g s k) := by
  unfold askedD
  split
  · exact (kp_ask s k true).trans ((hg _).trans (kp_op _))
  · exact kp_ask s k true
theorem kp_wr (s : DS) (k : Int) (x : Blk) : Kp s (wrD s k x) := kp_asked (fun s => writeD s k x) (fun _ => kp_of rfl rfl) s k
theorem kp_sy (s : DS) : Kp s (syD s) := kp_asked _ (fun s => kp_settle _ s) s 0
theorem kp_rd (s : DS) (k : Int) : Kp s (rdD s k) := by
  unfold rdD
  split
  · exact (kp_ask s k false).trans (kp_op _)
  · exact kp_ask s k false
theorem kp_layW : ∀ (xs : List Blk) (s : DS) (k : Int), Kp s (layW s k xs).1
  | [], s, _ => Kp.refl s
  | x :: xs, s, k => by
    rw [layW]
    split
    · exact (kp_wr s k x).trans (kp_layW xs _ _)
    · exact kp_wr s k x
theorem kp_layF (s : DS) (k : Int) (xs : List Blk) : Kp s (layF s k xs).1 := by
  rw [layF]
  split
  · exact (kp_layW xs s k).trans (kp_sy _)
  · exact kp_layW xs s k
theorem kp_beg (n : Nat) (t : Int) (bs : List UInt8) (s : DS) : Kp s (begF n t bs s).1 := by
  have e : begF n t bs s = if (layF s (fromN n t : Nat) (leavesF t 0 bs)).2 = 0 then layF (layF s (fromN n t : Nat) (leavesF t 0 bs)).1 ((t % 2).toNat : Nat) [titleF t n] else layF s (fromN n t : Nat) (leavesF t 0 bs) := rfl
  rw [e]
  split
  · exact (kp_layF _ _ _).trans (kp_layF _ _ _)
  · exact kp_layF _ _ _
theorem kp_fmt (n : Nat) (s : DS) : Kp s (fmtF n s).1 := by
  rw [fmtF]
  split
  · exact (kp_layF _ _ _).trans (kp_beg _ _ _ _)
  · exact kp_layF _ _ _
theorem kp_cnt : ∀ (k i : Nat) (s : DS) (B : Bst), Kp s (cntR k i s B).1
  | 0, _, s, B => by rw [cntR]; split <;> exact Kp.refl s
  | k + 1, i, s, B => by
    rw [cntR]
    split
    · exact (kp_rd s i).trans (kp_cnt k _ _ _)
    · exact kp_rd s i
theorem kp_field (fr : Nat) : ∀ (k i : Nat) (s : DS), Kp s (fieldW fr k i s).1
  | 0, _, s => Kp.refl s
  | k + 1, i, s => by
    rw [fieldW]
    split
    · exact (kp_rd s _).trans (kp_field fr k _ _)
    · exact kp_rd s _
theorem kp_clrW (fr : Nat) : ∀ (xs : List Blk) (i : Nat) (sy : Bool) (s : DS), Kp s (clrW fr xs i sy s).1
  | [], _, _, s => Kp.refl s
  | x :: xs, i, sy, s => by
    rw [clrW]
    split
    · exact kp_clrW fr xs _ _ _
    · split
      · exact (kp_wr s _ _).trans (kp_clrW fr xs _ _ _)
      · exact kp_wr s _ _
theorem kp_clr (fr fin : Nat) (f : List Blk) (s : DS) : Kp s (clrF fr fin f s).1 := by
  have h := kp_clrW fr (f.drop fin) fin (decide (0 < s.loose.length)) s
  unfold clrF clrR
  split
  · split
    · exact h.trans (kp_sy _)
    · exact h
  · exact h
theorem kp_open (s : DS) : Kp s (openF s).1 := by
  have h := kp_cnt 2 0 s ⟨false, 0, 0⟩
  rw [openF]
  split
  · refine Kp.trans h ?_
    show Kp (cntF s).1 _
    rw [openB]
    split
    · refine (kp_field (fromN (cntF s).2.2.n.toNat (cntF s).2.2.t) (cntF s).2.2.n.toNat 0 (cntF s).1).trans ?_
      rw [openC]
      split
      · exact Kp.refl _
      · split
        · exact kp_clr _ _ _ _
        · exact kp_clr _ _ _ _
    · exact kp_field _ _ _ _
  · exact h
theorem kp_crash (l : List Bool) (s : DS) : Kp s (crashD l s) := ⟨fun h => settle_nd h _, rfl⟩
theorem kp_fail (s : DS) (n : Int) : Kp s (failD s n) := by unfold failD; split <;> exact kp_of rfl rfl
theorem kp_arm (s : DS) (n : Int) : Kp s (armD s n) := by unfold armD; split <;> exact kp_of rfl rfl
theorem kp_app (V : LV) (bs : List UInt8) : Kp V.s (appV V bs).1.s := by
  unfold appV
  split
  · exact Kp.refl _
  · split
    · exact kp_layF _ _ _
    · exact kp_layF _ _ _
theorem kp_chk (V : LV) (bs : List UInt8) : Kp V.s (chkV V bs).1.s := by
  unfold chkV
  split
  · exact Kp.refl _
  · split
    · exact kp_beg _ _ _ _
    · exact kp_beg _ _ _ _
theorem kp_tak (V : LV) (seed : Dg) (n : Nat) : Kp V.s (takV V seed n).1.s := by
  unfold takV
  split
  · exact kp_app _ _
  · exact kp_chk _ _
theorem kp_sg (V : LV) (seed : Dg) (n : Nat) : Kp V.s (sgL V seed n).s := by
  unfold sgL
  split
  · exact Kp.refl _
  · split
    · exact Kp.refl _
    · exact kp_tak _ _ _
end Go.Proofs.YtlphkccfcodmcaaGreat

/- The laws of layer 10: a signer and the document's, side by side; both are opened anew. -/
namespace Go.Proofs.YtlphkccfcodmcaaGreat
open Go Go.Wk
set_option synthInstance.maxSize 100000
set_option synthInstance.maxHeartbeats 400000
set_option maxRecDepth 100000

theorem dsame_c (p q : Option Addr) (c e : Nat) (xs : List Dg) (hl : xs.length ≤ 1000) (w0 : World) (f0 : Stable (fun _ => False) w0 (GlF p xs)) (f1 : Stable (fun _ => False) w0 (GlF q xs)) :
    Ret Tryz.prog 80 [.slice p xs.length c, .slice q xs.length e] w0 (fun _ => False) fun v _ => v = .bool true := by
  refine enter Tryz.func80 rfl rfl (Wd.begin (fs := [GlF p xs, GlF q xs]) (by simp; exact ⟨f0, f1⟩)) (fun a S => ?_)
  simp only [Tryz.ntmps80, List.length_cons, List.length_nil, Nat.reduceAdd, Nat.reduceSub, List.replicate_succ, List.replicate_zero, List.cons_append, List.nil_append] at S
  refine c_seq ?_
  refine c_region ?_
  refine sq S ?_; clear S; intro a S
  refine wl_nil ?_
  refine xtn ?_
  iterate 2 (refine c_seq ?_)
  refine c_region ?_
  iterate 5 (refine sq S ?_; clear S; intro a S)
  rw [show (!decide ((xs.length : Int) = (xs.length : Int))) = false from by simp] at S
  refine wl_nil ?_
  refine xtn ?_
  refine c_condF S ?_
  refine c_skip ?_
  refine xtn ?_
  iterate 2 (refine c_seq ?_)
  refine c_region ?_
  iterate 3 (refine sq S ?_; clear S; intro a S)
  refine wl_nil ?_
  refine xtn ?_
  refine c_block ?_
  refine c_forb1 S (fun (j : Nat) uu => [(4, uu 4), (0, uu 5), (7, .int .i64 (j : Nat)), (0, uu 14), (0, uu 15), (0, uu 16), (0, uu 17), (0, uu 18), (0, uu 19), (0, uu 20), (0, uu 21), (0, uu 22), (0, uu 23), (0, uu 24), (0, uu 25)]) (fun (j : Nat) => j ≤ xs.length) (fun (j : Nat) => xs.length - j) (0) ?_ S.uu ?_ ?_
  · exact Nat.zero_le _
  · exact S
  · clear S; rintro j uu a w hj S
    refine c_seq ?_
    refine c_region ?_
    refine sq S ?_; clear S; intro a S
    refine wl_nil ?_
    refine xtn ?_
    refine c_seq ?_
    refine c_cond S (fun h4 => ?_) (fun h4 => ?_)
    · refine c_skip ?_
      refine xtn ?_
      refine c_seq ?_
      refine c_block ?_
      refine c_seq ?_
      have hjl : j < xs.length := by have := of_decide_eq_true h4; omega
      have hK : KLt j xs.length := ⟨hjl⟩
      refine c_region ?_
      iterate 2 (refine sq S ?_; clear S; intro a S)
      refine wl_nil ?_
      refine xtn ?_
      refine c_seq ?_
      refine c_drawD [(0, true), (1, true), (2, true), (3, true), (4, true), (5, true), (6, true), (7, true), (8, true)] [] S ?_; clear S; intro w S
      iterate 9 (refine dq S ?_; clear S; intro a S)
      rw [show (!decide ((nthG xs j).l = (nthG xs j).l)) = false from by simp] at S
      refine dn ?_
      refine xtn ?_
      refine c_condF S ?_
      refine c_skip ?_
      refine xbn ?_
      refine xtn ?_
      refine c_region ?_
      iterate 2 (refine sq S ?_; clear S; intro a S)
      refine wl_nil ?_
      refine xtn ?_
      rw [w64 ((j : Int) + 1) (by omega) (by omega)] at S
      exact ⟨j + 1, S.uu, hjl, S, by omega⟩
    · refine c_exit ?_
      iterate 2 (refine xte ?_)
      refine xbe ?_
      refine xtn ?_
      refine c_seq ?_
      refine c_region ?_
      refine sq S ?_; clear S; intro a S
      refine wl_nil ?_
      refine xtn ?_
      refine c_ret ?_
      exact end1 S (fun _ => rfl)
/-- a signature as it was told. -/
structure SO where
  lf : Nat
  ss : List Dg
  ps : List Dg
  pc : Option Addr
  cc : Nat
  pp : Option Addr
  cp : Nat
abbrev cSO (o : SO) : List Value := [.int .i64 (o.lf : Int), .slice o.pc o.ss.length o.cc, .slice o.pp o.ps.length o.cp]
theorem ssame_c (o u : SO) (h1 : o.lf = u.lf) (h2 : o.ss = u.ss) (h3 : o.ps = u.ps) (l1 : o.ss.length ≤ 1000) (l2 : o.ps.length ≤ 1000) (w0 : World) (f0 : Stable (fun _ => False) w0 (GlF o.pc o.ss)) (f1 : Stable (fun _ => False) w0 (GlF o.pp o.ps)) (f2 : Stable (fun _ => False) w0 (GlF u.pc u.ss)) (f3 : Stable (fun _ => False) w0 (GlF u.pp u.ps)) :
    Ret Tryz.prog 44 [.agg ⟨cSO o⟩, .agg ⟨cSO u⟩] w0 (fun _ => False) fun v _ => v = .bool true := by
  obtain ⟨lf, ss, ps, pc, cc, pp, cp⟩ := o
  obtain ⟨lf2, ss2, ps2, pc2, cc2, pp2, cp2⟩ := u
  simp only at h1 h2 h3 l1 l2 f0 f1 f2 f3
  subst h1 h2 h3
  refine enter Tryz.func44 rfl rfl (Wd.begin (fs := [GlF pc ss, GlF pp ps, GlF pc2 ss, GlF pp2 ps]) (by simp; exact ⟨f0, f1, f2, f3⟩)) (fun a S => ?_)
  simp only [Tryz.ntmps44, List.length_cons, List.length_nil, Nat.reduceAdd, Nat.reduceSub, List.replicate_succ, List.replicate_zero, List.cons_append, List.nil_append] at S
  refine c_seq ?_
  refine c_region ?_
  refine sa S ?_; clear S; intro b2 a w S
  refine sa S ?_; clear S; intro b3 a w S
  refine sq S ?_; clear S; intro a S
  refine wl_nil ?_
  refine xtn ?_
  refine c_seq ?_
  refine c_region ?_
  iterate 5 (refine sq S ?_; clear S; intro a S)
  rw [show decide ((lf : Int) = (lf : Int)) = true from by simp] at S
  refine sq S ?_; clear S; intro a S
  refine gT S ?_
  refine sq S ?_; clear S; intro a S
  refine gT S ?_
  refine sq S ?_; clear S; intro a S
  refine gT S ?_
  refine sq S ?_; clear S; intro a S
  refine gT S ?_
  refine sq S ?_; clear S; intro a S
  refine gT S ?_
  refine sr S (dsame_c pc pc2 cc cc2 ss l1 _ ((S.mem.fact (GlF pc ss)).less fun _ _ h => h.elim) ((S.mem.fact (GlF pc2 ss)).less fun _ _ h => h.elim)) ?_; clear S; rintro _ a w rfl S
  iterate 2 (refine sq S ?_; clear S; intro a S)
  refine gT S ?_
  refine sq S ?_; clear S; intro a S
  refine gT S ?_
  refine sq S ?_; clear S; intro a S
  refine gT S ?_
  refine sq S ?_; clear S; intro a S
  refine gT S ?_
  refine sq S ?_; clear S; intro a S
  refine gT S ?_
  refine sr S (dsame_c pp pp2 cp cp2 ps l2 _ ((S.mem.fact (GlF pp ps)).less fun _ _ h => h.elim) ((S.mem.fact (GlF pp2 ps)).less fun _ _ h => h.elim)) ?_; clear S; rintro _ a w rfl S
  iterate 2 (refine sq S ?_; clear S; intro a S)
  refine wl_nil ?_
  refine xtn ?_
  refine c_ret ?_
  exact end1 S (fun _ => rfl)
/-- a signer and the document's. -/
structure PR where
  x : Nat
  b1 : Nat
  b2 : Nat
  h1 : Nat
  h2 : Nat
  g1 : Nat
  g2 : Nat
  seed : Dg
  next : Nat
  L1 : LG
  L2 : LG
abbrev cPR (r : PR) : List Value := [.pointer (some ⟨r.b1, 0, none⟩), .pointer (some ⟨r.b2, 0, none⟩), .pointer (some ⟨r.h1, 0, none⟩), .pointer (some ⟨r.h2, 0, none⟩)]
abbrev prI (r : PR) : Wk.Item := both (Wk.box r.x 55 (cPR r)) (both (sgI r.h1 r.b1 r.g1 r.seed (r.next : Nat) r.L1) (mdI r.h2 r.b2 r.g2 r.seed (r.next : Nat) r.L2))
structure PrOk (r : PR) (k : Nat) : Prop where
  same : r.L1.v = r.L2.v
  wf : r.L1.v.Wf k
  nd : Nd r.L1.s
  size : 1 ≤ r.L1.s.size ∧ r.L1.s.size ≤ 4096
  next : r.next ≤ 8
theorem sagrees_c (r : PR) (hs : r.L1.v = r.L2.v) (w0 : World) (hd : (prI r).holds w0) : Ret Tryz.prog 20 [.pointer (some ⟨r.x, 0, none⟩)] w0 (fun _ => False) fun v _ => v = .bool true := by
  obtain ⟨x, b1, b2, h1, h2, g1, g2, seed, next, L1, L2⟩ := r
  have d1 := hd.1
  have d2 := hd.2.1.1
  have d3 := hd.2.1.2.1
  have e1 : (Wk.box h1 79 (cSg g1 seed (next : Nat))).holds w0 := d2.1
  have e2 : (Wk.box h2 99 (cSg g2 seed (next : Nat))).holds w0 := d3.1
  have e3 : (Wk.box g1 116 (cWal b1 L1.q L1.e L1.x)).holds w0 := (show (lgI b1 g1 L1).holds w0 from d2.2.1).2.1.1
  have e4 : (Wk.box g2 116 (cWal b2 L2.q L2.e L2.x)).holds w0 := (show (lgI b2 g2 L2).holds w0 from d3.2.1).2.1.1
  have hb : L1.x.broken = L2.x.broken := congrArg LV.broken hs
  refine enter Tryz.func20 rfl rfl (Wd.begin (fs := [BoxF x 55 (cPR ⟨x, b1, b2, h1, h2, g1, g2, seed, next, L1, L2⟩), BoxF h1 79 (cSg g1 seed (next : Nat)), BoxF h2 99 (cSg g2 seed (next : Nat)), BoxF g1 116 (cWal b1 L1.q L1.e L1.x), BoxF g2 116 (cWal b2 L2.q L2.e L2.x)]) (by simp; exact ⟨BoxF.stable d1 (fun h => h), BoxF.stable e1 (fun h => h), BoxF.stable e2 (fun h => h), BoxF.stable e3 (fun h => h), BoxF.stable e4 (fun h => h)⟩)) (fun a S => ?_)
  simp only [Tryz.ntmps20, List.length_cons, List.length_nil, Nat.reduceAdd, Nat.reduceSub, List.replicate_succ, List.replicate_zero, List.cons_append, List.nil_append] at S
  refine c_seq ?_
  refine c_region ?_
  refine sq S ?_; clear S; intro a S
  refine wl_nil ?_
  refine xtn ?_
  refine c_seq ?_
  refine c_drawD [(0, true), (1, true), (2, true), (3, true), (5, true), (6, true), (7, true), (8, true), (9, true), (10, true), (11, true), (4, false), (12, true), (13, true), (14, true), (15, true), (16, true), (17, true), (19, true), (20, true), (21, true), (22, true), (23, true), (24, true), (25, true), (18, false), (26, false), (27, true), (28, true), (29, true)] [] S ?_; clear S; intro w S
  iterate 11 (refine dq S ?_; clear S; intro a S)
  refine dl ?_
  refine sr S (snext_c h1 g1 seed (next : Nat) _ ((S.mem.fact (BoxF h1 79 (cSg g1 seed (next : Nat)))).less fun _ _ h => h.elim)) ?_; clear S; rintro _ a w rfl S
  refine de S ?_
  refine dq S ?_; clear S; intro a S
  rw [show decide ((next : Int) = (next : Int)) = true from by simp] at S
  refine dq S ?_; clear S; intro a S
  iterate 11 (refine dqG S ?_; clear S; intro a S)
  refine dl ?_
  refine gT S ?_
  refine sr S (sbroken_c h1 b1 g1 seed (next : Nat) L1.q L1.e L1.x _ ((S.mem.fact (BoxF h1 79 (cSg g1 seed (next : Nat)))).less fun _ _ h => h.elim) ((S.mem.fact (BoxF g1 116 (cWal b1 L1.q L1.e L1.x))).less fun _ _ h => h.elim)) ?_; clear S; rintro _ a w rfl S
  refine de S ?_
  refine dl ?_
  refine gT S ?_
  refine sr S (wbroken_c g2 b2 L2.q L2.e L2.x _ ((S.mem.fact (BoxF g2 116 (cWal b2 L2.q L2.e L2.x))).less fun _ _ h => h.elim)) ?_; clear S; rintro _ a w rfl S
  refine de S ?_
  refine dqG S ?_; clear S; intro a S
  rw [show decide (L1.x.broken = L2.x.broken) = true from decide_eq_true hb] at S
  iterate 2 (refine dq S ?_; clear S; intro a S)
  refine dn ?_
  refine xtn ?_
  refine c_ret ?_
  exact end1 S (fun _ => rfl)
/-! which signer is opened, or why none -/
def opE (s : DS) : Int := if (openF s).2.1 ≠ 0 then (openF s).2.1 else if sgV (opnV s).said = none then 200 else 0
def opD2 (s : DS) : Dg × Nat := (sgV (opnV s).said).getD (z32, 0)
theorem opD2_le (s : DS) : (opD2 s).2 ≤ 8 := by
  unfold opD2
  cases h : sgV (opnV s).said with
  | none => exact Nat.zero_le _
  | some p => exact sgV_le (seed := p.1) (n := p.2) h
theorem opE_zero {s : DS} (h : opE s = 0) : (openF s).2.1 = 0 := by
  unfold opE at h
  split at h
  · exact h
  · rename_i h2; exact Decidable.not_not.1 h2
theorem sopen_e (b m : Nat) (p : Option Addr) (c : Nat) (s : DS) (hl : s.loose.length ≤ 980000) (w0 : World) (hd : (dkI b m p c s).holds w0) :
    Ret Tryz.prog 16 [.pointer (some ⟨b, 0, none⟩)] w0 (dkI b m p c s).foot fun v w' =>
      (opE s ≠ 0 ∧ v = .tuple ⟨[.pointer none, .int .i64 (opE s)]⟩ ∧ ∃ p' c', (dkI b m p' c' (openF s).1).holds w' ∧ ∀ k, (dkI b m p' c' (openF s).1).foot k → (dkI b m p c s).foot k ∨ w0.heap.size ≤ k) ∨
      (opE s = 0 ∧ ∃ h g L, v = .tuple ⟨[.pointer (some ⟨h, 0, none⟩), .int .i64 0]⟩ ∧ L.m = m ∧ L.v = opnV s ∧ (sgI h b g (opD2 s).1 ((opD2 s).2 : Nat) L).holds w' ∧ ∀ k, (sgI h b g (opD2 s).1 ((opD2 s).2 : Nat) L).foot k → (dkI b m p c s).foot k ∨ w0.heap.size ≤ k) := by
  refine (sopen_c b m p c s hl w0 hd).mono fun v w' => ?_
  rintro (⟨h1, h2, h3⟩ | ⟨h1, h2, h3, h4⟩ | ⟨h1, h, g, L, seed, next, h2, h3, h4, h5, h6, h7⟩)
  · have e : opE s = (openF s).2.1 := by rw [opE, if_pos h1]
    rw [e]; exact .inl ⟨h1, h2, h3⟩
  · have e : opE s = 200 := by rw [opE, if_neg (fun h => h h1), if_pos h2]
    rw [e]; exact .inl ⟨by decide, h3, h4⟩
  · have e : opE s = 0 := by rw [opE, if_neg (fun h => h h1), if_neg (by rw [h2]; exact fun h => by cases h)]
    have e2 : opD2 s = (seed, next) := by rw [opD2, h2]; rfl
    rw [e2]
    exact .inr ⟨e, h, g, L, h3, h4, h5, h6, h7⟩
theorem mopen_e (b m : Nat) (p : Option Addr) (c : Nat) (s : DS) (hl : s.loose.length ≤ 980000) (w0 : World) (hd : (dkI b m p c s).holds w0) :
    Ret Tryz.prog 62 [.pointer (some ⟨b, 0, none⟩)] w0 (dkI b m p c s).foot fun v w' =>
      (opE s ≠ 0 ∧ v = .tuple ⟨[.pointer none, .int .i64 (opE s)]⟩ ∧ ∃ p' c', (dkI b m p' c' (openF s).1).holds w' ∧ ∀ k, (dkI b m p' c' (openF s).1).foot k → (dkI b m p c s).foot k ∨ w0.heap.size ≤ k) ∨
      (opE s = 0 ∧ ∃ h g L, v = .tuple ⟨[.pointer (some ⟨h, 0, none⟩), .int .i64 0]⟩ ∧ L.m = m ∧ L.v = opnV s ∧ (mdI h b g (opD2 s).1 ((opD2 s).2 : Nat) L).holds w' ∧ ∀ k, (mdI h b g (opD2 s).1 ((opD2 s).2 : Nat) L).foot k → (dkI b m p c s).foot k ∨ w0.heap.size ≤ k) := by
  refine (mopen_c b m p c s hl w0 hd).mono fun v w' => ?_
  rintro (⟨h1, h2, h3⟩ | ⟨h1, h2, h3, h4⟩ | ⟨h1, h, g, L, seed, next, h2, h3, h4, h5, h6, h7⟩)
  · have e : opE s = (openF s).2.1 := by rw [opE, if_pos h1]
    rw [e]; exact .inl ⟨h1, h2, h3⟩
  · have e : opE s = 200 := by rw [opE, if_neg (fun h => h h1), if_pos h2]
    rw [e]; exact .inl ⟨by decide, h3, h4⟩
  · have e : opE s = 0 := by rw [opE, if_neg (fun h => h h1), if_neg (by rw [h2]; exact fun h => by cases h)]
    have e2 : opD2 s = (seed, next) := by rw [opD2, h2]; rfl
    rw [e2]
    exact .inr ⟨e, h, g, L, h3, h4, h5, h6, h7⟩
end Go.Proofs.YtlphkccfcodmcaaGreat

/- The laws of layer 10: both are opened anew. -/
namespace Go.Proofs.YtlphkccfcodmcaaGreat
open Go Go.Wk
set_option synthInstance.maxSize 100000
set_option synthInstance.maxHeartbeats 400000
set_option maxRecDepth 100000

abbrev LG.set3 (L : LG) (p : Option Addr) (c : Nat) (s : DS) : LG := { L with p := p, c := c, s := s }
theorem again_bad (r : PR) (k : Nat) (h : PrOk r k) (hk : k ≤ 970000) (hE : opE r.L1.s ≠ 0) (w0 : World) (hd : (prI r).holds w0) :
    Ret Tryz.prog 45 [.pointer (some ⟨r.x, 0, none⟩)] w0 (prI r).foot fun v w' => v = .bool true ∧ ∃ r', (prI r').holds w' ∧ (∀ k, (prI r').foot k → (prI r).foot k ∨ w0.heap.size ≤ k) ∧ r'.x = r.x ∧ PrOk r' (k + 1000) := by
  obtain ⟨x, b1, b2, h1, h2, g1, g2, seed, next, L1, L2⟩ := r
  obtain ⟨hs, hwf, hnd, hsz, hnx⟩ := h
  simp only at hs hwf hnd hsz hnx hE
  have hss : L2.s = L1.s := (congrArg LV.s hs).symm
  have hE2 : opE L2.s ≠ 0 := by rw [hss]; exact hE
  have hl1 : L1.s.loose.length ≤ k := hwf.loose
  have hl2 : L2.s.loose.length ≤ k := by rw [hss]; exact hl1
  refine enter Tryz.func45 rfl rfl (Wd.itLent (x := prI ⟨x, b1, b2, h1, h2, g1, g2, seed, next, L1, L2⟩) (fs := []) hd (by simp)) (fun a S => ?_)
  simp only [Tryz.ntmps45, List.length_cons, List.length_nil, Nat.reduceAdd, Nat.reduceSub, List.replicate_succ, List.replicate_zero, List.cons_append, List.nil_append] at S
  replace S := St.open3 S
  refine c_seq ?_
  refine c_region ?_
  refine sq S ?_; clear S; intro a S
  refine wl_nil ?_
  refine xtn ?_
  refine c_seq ?_
  replace S := S.front (sgI h1 b1 g1 seed (next : Nat) L1)
  replace S := S.ofBoth
  replace S := S.front (lgI b1 g1 L1)
  replace S := S.ofBoth
  replace S := S.front (mdI h2 b2 g2 seed (next : Nat) L2)
  replace S := S.ofBoth
  replace S := S.front (lgI b2 g2 L2)
  replace S := S.ofBoth
  refine c_region ?_
  iterate 4 (refine sq S ?_; clear S; intro a S)
  refine sit (dkI b1 L1.m L1.p L1.c L1.s) S (sopen_e b1 L1.m L1.p L1.c L1.s (by omega) _ (S.it (dkI b1 L1.m L1.p L1.c L1.s))) rfl ?_; clear S; rintro _ a w (⟨-, rfl, p1, c1, hh1, hf1⟩ | ⟨h, -⟩) hS
  rotate_left 1
  · exact absurd h hE
  have S := hS (dkI b1 L1.m p1 c1 (openF L1.s).1) hh1 hf1
  clear hS
  iterate 5 (refine sq S ?_; clear S; intro a S)
  refine wl_nil ?_
  refine xtn ?_
  refine c_seq ?_
  refine c_region ?_
  iterate 4 (refine sq S ?_; clear S; intro a S)
  refine sit (dkI b2 L2.m L2.p L2.c L2.s) S (mopen_e b2 L2.m L2.p L2.c L2.s (by omega) _ (S.it (dkI b2 L2.m L2.p L2.c L2.s))) rfl ?_; clear S; rintro _ a w (⟨-, rfl, p2, c2, hh2, hf2⟩ | ⟨h, -⟩) hS
  rotate_left 1
  · exact absurd h hE2
  have S := hS (dkI b2 L2.m p2 c2 (openF L2.s).1) hh2 hf2
  clear hS
  rw [show opE L2.s = opE L1.s from by rw [hss]] at S
  iterate 5 (refine sq S ?_; clear S; intro a S)
  refine wl_nil ?_
  refine xtn ?_
  iterate 2 (refine c_seq ?_)
  refine c_region ?_
  iterate 3 (refine sq S ?_; clear S; intro a S)
  rw [show (!decide (opE L1.s = opE L1.s)) = false from by simp] at S
  refine sq S ?_; clear S; intro a S
  iterate 5 (refine gQ S ?_; clear S; intro a S)
  refine sq S ?_; clear S; intro a S
  refine wl_nil ?_
  refine xtn ?_
  refine c_condF S ?_
  refine c_skip ?_
  refine xtn ?_
  iterate 2 (refine c_seq ?_)
  refine c_region ?_
  iterate 2 (refine sq S ?_; clear S; intro a S)
  refine wl_nil ?_
  refine xtn ?_
  refine c_condF S ?_
  refine c_skip ?_
  refine xtn ?_
  refine c_seq ?_
  obtain ⟨r', hr'⟩ : ∃ r' : PR, r' = ⟨x, b1, b2, h1, h2, g1, g2, seed, next, L1.set3 p1 c1 (openF L1.s).1, L2.set3 p2 c2 (openF L2.s).1⟩ := ⟨_, rfl⟩
  have hok : PrOk r' (k + 1000) := by
    have hlo := openF_loose L1.s
    have hkp := kp_open L1.s
    rw [hr']
    refine ⟨?_, ⟨hwf.n, hwf.fin, hwf.some_, hwf.few, hwf.short, hwf.turn, ?_⟩, hkp.1 hnd, by show 1 ≤ (openF L1.s).1.size ∧ _; rw [hkp.2]; exact hsz, hnx⟩
    · show LG.v _ = LG.v _
      have e1 := congrArg LV.n hs
      have e2 := congrArg LV.turn hs
      have e3 := congrArg LV.said hs
      have e4 := congrArg LV.fin hs
      have e5 := congrArg LV.broken hs
      simp only [LG.v] at e1 e2 e3 e4 e5 ⊢
      rw [hss, e1, e2, e3, e4, e5]
    · show (openF L1.s).1.loose.length ≤ _
      omega
  replace S := S.front (dkI b2 L2.m p2 c2 (openF L2.s).1)
  replace S := S.toBoth
  replace S := S.front (Wk.box h2 99 (cSg g2 seed (next : Nat)))
  replace S := S.toBoth
  replace S := S.front (walI g1 b1 L1.q L1.e L1.x)
  replace S := S.front (dkI b1 L1.m p1 c1 (openF L1.s).1)
  replace S := S.toBoth
  replace S := S.front (Wk.box h1 79 (cSg g1 seed (next : Nat)))
  replace S := S.toBoth
  replace S := S.front (Wk.box x 55 (cPR ⟨x, b1, b2, h1, h2, g1, g2, seed, next, L1, L2⟩))
  replace S := St.close3 S
  replace S := S.sub [prI ⟨x, b1, b2, h1, h2, g1, g2, seed, next, L1.set3 p1 c1 (openF L1.s).1, L2.set3 p2 c2 (openF L2.s).1⟩] []
  rw [← hr'] at S
  have hxx : x = r'.x := by rw [hr']
  refine c_region ?_
  refine sq S ?_; clear S; intro a S
  have ha := sagrees_c r' hok.same w (S.it (prI r'))
  rw [← hxx] at ha
  refine sr S ha ?_; clear S; rintro _ a w rfl S
  refine sq S ?_; clear S; intro a S
  refine wl_nil ?_
  refine xtn ?_
  refine c_ret ?_
  have q1 := S.it (prI r')
  have q2 := S.itNew (prI r') rfl
  exact end1 S (fun _ => ⟨rfl, r', q1, q2, hxx.symm, hok⟩)
theorem again_ok (r : PR) (k : Nat) (h : PrOk r k) (hk : k ≤ 970000) (hE : opE r.L1.s = 0) (w0 : World) (hd : (prI r).holds w0) :
    Ret Tryz.prog 45 [.pointer (some ⟨r.x, 0, none⟩)] w0 (prI r).foot fun v w' => v = .bool true ∧ ∃ r', (prI r').holds w' ∧ (∀ k, (prI r').foot k → (prI r).foot k ∨ w0.heap.size ≤ k) ∧ r'.x = r.x ∧ PrOk r' (k + 1000) := by
  obtain ⟨x, b1, b2, h1, h2, g1, g2, seed, next, L1, L2⟩ := r
  obtain ⟨hs, hwf, hnd, hsz, hnx⟩ := h
  simp only at hs hwf hnd hsz hnx hE
  have hss : L2.s = L1.s := (congrArg LV.s hs).symm
  have hE2 : opE L2.s = 0 := by rw [hss]; exact hE
  have hl1 : L1.s.loose.length ≤ k := hwf.loose
  have hl2 : L2.s.loose.length ≤ k := by rw [hss]; exact hl1
  refine enter Tryz.func45 rfl rfl (Wd.itLent (x := prI ⟨x, b1, b2, h1, h2, g1, g2, seed, next, L1, L2⟩) (fs := []) hd (by simp)) (fun a S => ?_)
  simp only [Tryz.ntmps45, List.length_cons, List.length_nil, Nat.reduceAdd, Nat.reduceSub, List.replicate_succ, List.replicate_zero, List.cons_append, List.nil_append] at S
  replace S := St.open3 S
  refine c_seq ?_
  refine c_region ?_
  refine sq S ?_; clear S; intro a S
  refine wl_nil ?_
  refine xtn ?_
  refine c_seq ?_
  replace S := S.front (sgI h1 b1 g1 seed (next : Nat) L1)
  replace S := S.ofBoth
  replace S := S.front (lgI b1 g1 L1)
  replace S := S.ofBoth
  replace S := S.front (mdI h2 b2 g2 seed (next : Nat) L2)
  replace S := S.ofBoth
  replace S := S.front (lgI b2 g2 L2)
  replace S := S.ofBoth
  refine c_region ?_
  iterate 4 (refine sq S ?_; clear S; intro a S)
  refine sit (dkI b1 L1.m L1.p L1.c L1.s) S (sopen_e b1 L1.m L1.p L1.c L1.s (by omega) _ (S.it (dkI b1 L1.m L1.p L1.c L1.s))) rfl ?_; clear S; rintro _ a w (⟨h, -⟩ | ⟨-, h3, g3, L3, rfl, hm3, hv3, hh3, hf3⟩) hS
  · exact absurd hE h
  have S := hS (sgI h3 b1 g3 (opD2 L1.s).1 ((opD2 L1.s).2 : Nat) L3) hh3 hf3
  clear hS
  iterate 5 (refine sq S ?_; clear S; intro a S)
  refine wl_nil ?_
  refine xtn ?_
  refine c_seq ?_
  refine c_region ?_
  iterate 4 (refine sq S ?_; clear S; intro a S)
  refine sit (dkI b2 L2.m L2.p L2.c L2.s) S (mopen_e b2 L2.m L2.p L2.c L2.s (by omega) _ (S.it (dkI b2 L2.m L2.p L2.c L2.s))) rfl ?_; clear S; rintro _ a w (⟨h, -⟩ | ⟨-, h4, g4, L4, rfl, hm4, hv4, hh4, hf4⟩) hS
  · exact absurd hE2 h
  have S := hS (mdI h4 b2 g4 (opD2 L2.s).1 ((opD2 L2.s).2 : Nat) L4) hh4 hf4
  clear hS
  rw [show opD2 L2.s = opD2 L1.s from by rw [hss]] at S
  iterate 5 (refine sq S ?_; clear S; intro a S)
  refine wl_nil ?_
  refine xtn ?_
  iterate 2 (refine c_seq ?_)
  refine c_region ?_
  iterate 4 (refine sq S ?_; clear S; intro a S)
  iterate 5 (refine gQ S ?_; clear S; intro a S)
  refine sq S ?_; clear S; intro a S
  refine wl_nil ?_
  refine xtn ?_
  refine c_condF S ?_
  refine c_skip ?_
  refine xtn ?_
  iterate 2 (refine c_seq ?_)
  refine c_region ?_
  iterate 2 (refine sq S ?_; clear S; intro a S)
  refine wl_nil ?_
  refine xtn ?_
  refine c_condT S ?_
  refine c_region ?_
  iterate 6 (refine sq S ?_; clear S; intro a S)
  refine sw S ?_; clear S; intro a w S
  iterate 2 (refine sq S ?_; clear S; intro a S)
  refine sw S ?_; clear S; intro a w S
  refine wl_nil ?_
  refine xtn ?_
  refine c_seq ?_
  obtain ⟨r', hr'⟩ : ∃ r' : PR, r' = ⟨x, b1, b2, h3, h4, g3, g4, (opD2 L1.s).1, (opD2 L1.s).2, L3, L4⟩ := ⟨_, rfl⟩
  have hok : PrOk r' (k + 1000) := by
    have hkp := kp_open L1.s
    rw [hr']
    have e3 : L3.s = (openF L1.s).1 := congrArg LV.s hv3
    refine ⟨by show L3.v = L4.v; rw [hv3, hv4, hss], by show L3.v.Wf _; rw [hv3]; exact (opnV_wf (opE_zero hE)).more (by omega), by show Nd L3.s; rw [e3]; exact hkp.1 hnd, by show 1 ≤ L3.s.size ∧ L3.s.size ≤ _; rw [e3, hkp.2]; exact hsz, opD2_le _⟩
  replace S := S.front (mdI h4 b2 g4 (opD2 L1.s).1 ((opD2 L1.s).2 : Nat) L4)
  replace S := S.front (sgI h3 b1 g3 (opD2 L1.s).1 ((opD2 L1.s).2 : Nat) L3)
  replace S := S.front (Wk.box x 55 [.pointer (some ⟨b1, 0, none⟩), .pointer (some ⟨b2, 0, none⟩), .pointer (some ⟨h3, 0, none⟩), .pointer (some ⟨h4, 0, none⟩)])
  replace S := St.close3 S
  replace S := S.sub [prI ⟨x, b1, b2, h3, h4, g3, g4, (opD2 L1.s).1, (opD2 L1.s).2, L3, L4⟩] []
  rw [← hr'] at S
  have hxx : x = r'.x := by rw [hr']
  refine c_region ?_
  refine sq S ?_; clear S; intro a S
  have ha := sagrees_c r' hok.same w (S.it (prI r'))
  rw [← hxx] at ha
  refine sr S ha ?_; clear S; rintro _ a w rfl S
  refine sq S ?_; clear S; intro a S
  refine wl_nil ?_
  refine xtn ?_
  refine c_ret ?_
  have q1 := S.it (prI r')
  have q2 := S.itNew (prI r') rfl
  exact end1 S (fun _ => ⟨rfl, r', q1, q2, hxx.symm, hok⟩)
theorem again_c (r : PR) (k : Nat) (h : PrOk r k) (hk : k ≤ 970000) (w0 : World) (hd : (prI r).holds w0) :
    Ret Tryz.prog 45 [.pointer (some ⟨r.x, 0, none⟩)] w0 (prI r).foot fun v w' => v = .bool true ∧ ∃ r', (prI r').holds w' ∧ (∀ k, (prI r').foot k → (prI r).foot k ∨ w0.heap.size ≤ k) ∧ r'.x = r.x ∧ PrOk r' (k + 1000) := by
  by_cases hE : opE r.L1.s = 0
  · exact again_ok r k h hk hE w0 hd
  · exact again_bad r k h hk hE w0 hd
end Go.Proofs.YtlphkccfcodmcaaGreat

/- The laws of layer 10: what is done by both. -/
namespace Go.Proofs.YtlphkccfcodmcaaGreat
open Go Go.Wk
set_option synthInstance.maxSize 100000
set_option synthInstance.maxHeartbeats 400000
set_option maxRecDepth 100000

def sgO (V : LV) (seed m : Dg) (next : Nat) : Nat × List Dg × List Dg := if sgE V seed next = 0 then (next, signD (seedD seed next) m, pathD seed next) else (0, [], [])
theorem sg_out {V : LV} {seed m : Dg} {next : Nat} {M : Nat → Prop} {v : Value} {w : World} (h : SgR V seed m next M v w) : ∃ o : SO, v = .tuple ⟨[.agg ⟨cSO o⟩, .int .i64 (sgE V seed next)]⟩ ∧ Stable M w (GlF o.pc o.ss) ∧ Stable M w (GlF o.pp o.ps) ∧ (o.lf, o.ss, o.ps) = sgO V seed m next := by
  rcases h with ⟨hE, rfl⟩ | ⟨hE, -, pc, cc, pp, cp, rfl, g1, g2⟩
  · exact ⟨⟨0, [], [], none, 0, none, 0⟩, rfl, fun _ _ => gl_nil, fun _ _ => gl_nil, by rw [sgO, if_neg hE]⟩
  · refine ⟨⟨next, signD (seedD seed next) m, pathD seed next, pc, cc, pp, cp⟩, ?_, g1, g2, by rw [sgO, if_pos hE]⟩
    rw [hE]
    show _ = Value.tuple ⟨[.agg ⟨[_, .slice pc (signD (seedD seed next) m).length cc, .slice pp (pathD seed next).length cp]⟩, _]⟩
    rw [signD_len, path_len]; rfl
theorem sgL_wf {V : LV} {k : Nat} (h : V.Wf k) (seed : Dg) (next : Nat) : (sgL V seed next).Wf (k + 840) := by
  unfold sgL
  split
  · exact h.more (by omega)
  · split
    · exact h.more (by omega)
    · unfold takV
      split
      · exact appV_wf h _
      · exact chkV_wf h _
theorem sgN_le {V : LV} {seed : Dg} {next : Nat} (h : next ≤ 8) : sgN V seed next ≤ 8 := by
  unfold sgN
  split
  · rename_i hE
    have : next ≠ 8 := fun h8 => by
      rw [sgE, h8] at hE
      split at hE
      · cases hE
      · rw [if_pos rfl] at hE; cases hE
    omega
  · exact h
theorem sgO_len (V : LV) (seed m : Dg) (next : Nat) : (sgO V seed m next).2.1.length ≤ 1000 ∧ (sgO V seed m next).2.2.length ≤ 1000 := by
  unfold sgO
  split
  · exact ⟨by show (signD _ _).length ≤ _; rw [signD_len]; omega, by show (pathD _ _).length ≤ _; rw [path_len]; omega⟩
  · exact ⟨by simp, by simp⟩
theorem prOk_set {x b1 b2 h1 h2 g1 g2 : Nat} {seed : Dg} {next : Nat} {L1 L2 : LG} {k : Nat} (h : PrOk ⟨x, b1, b2, h1, h2, g1, g2, seed, next, L1, L2⟩ k) {s' : DS} (hs : Kp L1.s s') (hl : s'.loose.length ≤ k + 2000) (p1 p2 : Option Addr) (c1 c2 : Nat) : PrOk ⟨x, b1, b2, h1, h2, g1, g2, seed, next, L1.set3 p1 c1 s', L2.set3 p2 c2 s'⟩ (k + 2000) := by
  obtain ⟨q1, q2, q3, q4, q5⟩ := h
  refine ⟨?_, ⟨q2.n, q2.fin, q2.some_, q2.few, q2.short, q2.turn, hl⟩, hs.1 q3, by show 1 ≤ s'.size ∧ s'.size ≤ _; rw [hs.2]; exact q4, q5⟩
  show LG.v _ = LG.v _
  have e1 := congrArg LV.n q1
  have e2 := congrArg LV.turn q1
  have e3 := congrArg LV.said q1
  have e4 := congrArg LV.fin q1
  have e5 := congrArg LV.broken q1
  simp only [LG.v] at e1 e2 e3 e4 e5 ⊢
  rw [e1, e2, e3, e4, e5]
theorem does_c (r : PR) (k : Nat) (h : PrOk r k) (hk : k ≤ 960000) (o : LSop) (ho : o.keep.length ≤ o.c ∧ o.c ≤ maxLen) (hz : o.keep.length ≤ 140737488355328) (w0 : World) (hd : (prI r).holds w0) (f0 : Stable (prI r).foot w0 (GlF o.p o.keep)) :
    Ret Tryz.prog 21 [.pointer (some ⟨r.x, 0, none⟩), .agg ⟨cSop o⟩] w0 (prI r).foot fun v w' => v = .bool true ∧ ∃ r', (prI r').holds w' ∧ (∀ k, (prI r').foot k → (prI r).foot k ∨ w0.heap.size ≤ k) ∧ r'.x = r.x ∧ PrOk r' (k + 2000) := by
  obtain ⟨x, b1, b2, i1, i2, g1, g2, seed, next, L1, L2⟩ := r
  obtain ⟨hs, hwf, hnd, hsz, hnx⟩ := id h
  simp only at hs hwf hnd hsz hnx
  have hwf2 : L2.v.Wf k := by rw [← hs]; exact hwf
  have hss : L2.s = L1.s := (congrArg LV.s hs).symm
  have hl1 : L1.s.loose.length ≤ k := hwf.loose
  have hl2 : L2.s.loose.length ≤ k := by rw [hss]; exact hl1
  refine enter Tryz.func21 rfl rfl (Wd.itLent (x := prI ⟨x, b1, b2, i1, i2, g1, g2, seed, next, L1, L2⟩) (fs := [GlF o.p o.keep]) hd (by intro Φ hΦ; obtain rfl := List.mem_singleton.1 hΦ; exact f0)) (fun a S => ?_)
  simp only [Tryz.ntmps21, List.length_cons, List.length_nil, Nat.reduceAdd, Nat.reduceSub, List.replicate_succ, List.replicate_zero, List.cons_append, List.nil_append] at S
  replace S := St.open3 S
  refine c_seq ?_
  refine c_region ?_
  refine sa S ?_; clear S; intro b3 a w S
  refine sq S ?_; clear S; intro a S
  refine wl_nil ?_
  refine xtn ?_
  iterate 2 (refine c_seq ?_)
  refine c_region ?_
  iterate 5 (refine sq S ?_; clear S; intro a S)
  refine wl_nil ?_
  refine xtn ?_
  refine c_block ?_
  refine c_seq ?_
  refine c_region ?_
  iterate 3 (refine sq S ?_; clear S; intro a S)
  refine wl_nil ?_
  refine xtn ?_
  refine c_cond S (fun h2 => ?_) (fun h2 => ?_)
  · refine c_seq ?_
    refine c_drwe3 (.q 0 (.q 1 (.q 2 (.q 3 (.q 4 (.q 5 (.b2 6 10 (.q 7 (.q 8 (.q 9 (.l 10 (.l 11 (.q 12 (.e))))))) (.l 6 (.q 7 (.q 8 (.q 9 (.l 11 (.q 12 (.e)))))))))))))) S (fun (v6 : Nat) (L3 : LG) (t : SO) uu => [(6, .pointer (some ⟨v6, 0, none⟩)), (0, .int .i64 (sgE L1.v seed next)), (9, uu 17), (0, uu 18), (0, uu 19), (0, uu 20), (0, uu 21), (0, uu 22), (0, uu 23), (0, uu 24), (0, uu 25), (0, uu 26)]) [Wk.box b3 38 (cSop o), Wk.box x 55 (cPR ⟨x, b1, b2, i1, i2, g1, g2, seed, next, L1, L2⟩), mdI i2 b2 g2 seed (next : Nat) L2] (fun (v6 : Nat) (L3 : LG) (t : SO) => [Wk.box v6 41 (cSO t), Wk.box b3 38 (cSop o), Wk.box x 55 (cPR ⟨x, b1, b2, i1, i2, g1, g2, seed, next, L1, L2⟩), sgI i1 b1 g1 seed ((sgN L1.v seed next : Nat) : Int) L3, mdI i2 b2 g2 seed (next : Nat) L2]) (fun (v6 : Nat) (L3 : LG) (t : SO) => [GlF t.pc t.ss, GlF t.pp t.ps]) (fun (v6 : Nat) (L3 : LG) (t : SO) => L3.v = sgL L1.v seed next ∧ (t.lf, t.ss, t.ps) = sgO L1.v seed o.m next) ?_ ?_
    · intro w S
      iterate 6 (refine tq S ?_; clear S; intro a S)
      refine tb2 ?_ ?_
      · refine sitM (sgI i1 b1 g1 seed (next : Nat) L1) S (ssign_c i1 b1 g1 seed o.m next hnx L1 k hwf (by omega) (restOf _ (sgI i1 b1 g1 seed (next : Nat) L1)) _ (S.restOk _) (S.it (sgI i1 b1 g1 seed (next : Nat) L1))) rfl ?_; clear S; rintro v a w ⟨L3, hh3, hf3, hm3, hv3, hR3⟩ hS
        obtain ⟨t, rfl, k1, k2, ht3⟩ := sg_out hR3
        have S := hS (sgI i1 b1 g1 seed ((sgN L1.v seed next : Nat) : Int) L3) [GlF t.pc t.ss, GlF t.pp t.ps] hh3 hf3 (by simp only [List.mem_cons, List.not_mem_nil, or_false]; rintro Φ (rfl | rfl); exact k1; exact k2)
        clear hS
        refine te S ?_
        iterate 3 (refine tq S ?_; clear S; intro a S)
        refine tl ?_
        refine sa S ?_; clear S; intro b6 a w S
        refine te S ?_
        refine tl ?_
        refine sw S ?_; clear S; intro a w S
        refine te S ?_
        refine tq S ?_; clear S; intro a S
        refine tn ?_
        exact ⟨b6, L3, t, S.uu, ⟨hv3, ht3⟩, S.sub _ _⟩
      · refine sa S ?_; clear S; intro b6 a w S
        refine te S ?_
        refine tl ?_
        refine sitM (sgI i1 b1 g1 seed (next : Nat) L1) S (ssign_c i1 b1 g1 seed o.m next hnx L1 k hwf (by omega) (restOf _ (sgI i1 b1 g1 seed (next : Nat) L1)) _ (S.restOk _) (S.it (sgI i1 b1 g1 seed (next : Nat) L1))) rfl ?_; clear S; rintro v a w ⟨L3, hh3, hf3, hm3, hv3, hR3⟩ hS
        obtain ⟨t, rfl, k1, k2, ht3⟩ := sg_out hR3
        have S := hS (sgI i1 b1 g1 seed ((sgN L1.v seed next : Nat) : Int) L3) [GlF t.pc t.ss, GlF t.pp t.ps] hh3 hf3 (by simp only [List.mem_cons, List.not_mem_nil, or_false]; rintro Φ (rfl | rfl); exact k1; exact k2)
        clear hS
        refine te S ?_
        iterate 3 (refine tq S ?_; clear S; intro a S)
        refine tl ?_
        refine sw S ?_; clear S; intro a w S
        refine te S ?_
        refine tq S ?_; clear S; intro a S
        refine tn ?_
        exact ⟨b6, L3, t, S.uu, ⟨hv3, ht3⟩, S.sub _ _⟩
    clear S; rintro v6 L3 t uu a w ⟨hv3, ht3⟩ S
    refine xtn ?_
    refine c_seq ?_
    refine c_drwe3 (.q 0 (.q 1 (.q 2 (.q 3 (.q 4 (.q 5 (.b2 6 10 (.q 7 (.q 8 (.q 9 (.l 10 (.l 11 (.q 12 (.e))))))) (.l 6 (.q 7 (.q 8 (.q 9 (.l 11 (.q 12 (.e)))))))))))))) S (fun (v8 : Nat) (L4 : LG) (u : SO) uu => [(8, .pointer (some ⟨v8, 0, none⟩)), (0, .int .i64 (sgE L1.v seed next)), (17, uu 27), (0, uu 28), (0, uu 29), (0, uu 30), (0, uu 31), (0, uu 32), (0, uu 33), (0, uu 34), (0, uu 35), (0, uu 36)]) [Wk.box v6 41 (cSO t), Wk.box b3 38 (cSop o), Wk.box x 55 (cPR ⟨x, b1, b2, i1, i2, g1, g2, seed, next, L1, L2⟩), sgI i1 b1 g1 seed ((sgN L1.v seed next : Nat) : Int) L3] (fun (v8 : Nat) (L4 : LG) (u : SO) => [Wk.box v8 41 (cSO u), Wk.box v6 41 (cSO t), Wk.box b3 38 (cSop o), Wk.box x 55 (cPR ⟨x, b1, b2, i1, i2, g1, g2, seed, next, L1, L2⟩), sgI i1 b1 g1 seed ((sgN L1.v seed next : Nat) : Int) L3, mdI i2 b2 g2 seed ((sgN L1.v seed next : Nat) : Int) L4]) (fun (v8 : Nat) (L4 : LG) (u : SO) => [GlF u.pc u.ss, GlF u.pp u.ps, GlF t.pc t.ss, GlF t.pp t.ps]) (fun (v8 : Nat) (L4 : LG) (u : SO) => L4.v = sgL L1.v seed next ∧ (u.lf, u.ss, u.ps) = sgO L1.v seed o.m next) ?_ ?_
    · intro w S
      iterate 6 (refine tq S ?_; clear S; intro a S)
      refine tb2 ?_ ?_
      · refine sitM (mdI i2 b2 g2 seed (next : Nat) L2) S (msignm_c i2 b2 g2 seed o.m next hnx L2 k hwf2 (by omega) (restOf _ (mdI i2 b2 g2 seed (next : Nat) L2)) _ (S.restOk _) (S.it (mdI i2 b2 g2 seed (next : Nat) L2))) rfl ?_; clear S; rintro v a w ⟨L4, hh4, hf4, hm4, hv4, hR4⟩ hS
        rw [← hs] at hh4 hf4 hv4 hR4
        obtain ⟨u, rfl, k1, k2, hu4⟩ := sg_out hR4
        have S := hS (mdI i2 b2 g2 seed ((sgN L1.v seed next : Nat) : Int) L4) [GlF u.pc u.ss, GlF u.pp u.ps] hh4 hf4 (by simp only [List.mem_cons, List.not_mem_nil, or_false]; rintro Φ (rfl | rfl); exact k1; exact k2)
        clear hS
        refine te S ?_
        iterate 3 (refine tq S ?_; clear S; intro a S)
        refine tl ?_
        refine sa S ?_; clear S; intro b8 a w S
        refine te S ?_
        refine tl ?_
        refine sw S ?_; clear S; intro a w S
        refine te S ?_
        refine tq S ?_; clear S; intro a S
        refine tn ?_
        exact ⟨b8, L4, u, S.uu, ⟨hv4, hu4⟩, S.sub _ _⟩
      · refine sa S ?_; clear S; intro b8 a w S
        refine te S ?_
        refine tl ?_
        refine sitM (mdI i2 b2 g2 seed (next : Nat) L2) S (msignm_c i2 b2 g2 seed o.m next hnx L2 k hwf2 (by omega) (restOf _ (mdI i2 b2 g2 seed (next : Nat) L2)) _ (S.restOk _) (S.it (mdI i2 b2 g2 seed (next : Nat) L2))) rfl ?_; clear S; rintro v a w ⟨L4, hh4, hf4, hm4, hv4, hR4⟩ hS
        rw [← hs] at hh4 hf4 hv4 hR4
        obtain ⟨u, rfl, k1, k2, hu4⟩ := sg_out hR4
        have S := hS (mdI i2 b2 g2 seed ((sgN L1.v seed next : Nat) : Int) L4) [GlF u.pc u.ss, GlF u.pp u.ps] hh4 hf4 (by simp only [List.mem_cons, List.not_mem_nil, or_false]; rintro Φ (rfl | rfl); exact k1; exact k2)
        clear hS
        refine te S ?_
        iterate 3 (refine tq S ?_; clear S; intro a S)
        refine tl ?_
        refine sw S ?_; clear S; intro a w S
        refine te S ?_
        refine tq S ?_; clear S; intro a S
        refine tn ?_
        exact ⟨b8, L4, u, S.uu, ⟨hv4, hu4⟩, S.sub _ _⟩
    clear S; rintro v8 L4 u uu a w ⟨hv4, hu4⟩ S
    refine xtn ?_
    refine c_seq ?_
    refine c_region ?_
    iterate 3 (refine sq S ?_; clear S; intro a S)
    rw [show decide (sgE L1.v seed next = sgE L1.v seed next) = true from by simp] at S
    refine sq S ?_; clear S; intro a S
    refine gT S ?_
    refine sq S ?_; clear S; intro a S
    refine gT S ?_
    refine sq S ?_; clear S; intro a S
    refine gT S ?_
    have hsl := sgO_len L1.v seed o.m next
    rw [← ht3] at hsl
    have he := ht3.trans hu4.symm
    simp only [Prod.mk.injEq] at he
    refine sr S (ssame_c t u he.1 he.2.1 he.2.2 hsl.1 hsl.2 _ ((S.mem.fact (GlF t.pc t.ss)).less fun _ _ h => h.elim) ((S.mem.fact (GlF t.pp t.ps)).less fun _ _ h => h.elim) ((S.mem.fact (GlF u.pc u.ss)).less fun _ _ h => h.elim) ((S.mem.fact (GlF u.pp u.ps)).less fun _ _ h => h.elim)) ?_; clear S; rintro _ a w rfl S
    iterate 2 (refine sq S ?_; clear S; intro a S)
    refine wl_nil ?_
    refine xtn ?_
    refine c_ret ?_
    refine xbr ?_
    refine xtr ?_
    replace S := S.front (mdI i2 b2 g2 seed ((sgN L1.v seed next : Nat) : Int) L4)
    replace S := S.front (sgI i1 b1 g1 seed ((sgN L1.v seed next : Nat) : Int) L3)
    replace S := S.front (Wk.box x 55 (cPR ⟨x, b1, b2, i1, i2, g1, g2, seed, next, L1, L2⟩))
    replace S := St.close3 S
    replace S := S.sub [prI ⟨x, b1, b2, i1, i2, g1, g2, seed, sgN L1.v seed next, L3, L4⟩] []
    have q1 := S.it (prI ⟨x, b1, b2, i1, i2, g1, g2, seed, sgN L1.v seed next, L3, L4⟩)
    have q2 := S.itNew (prI ⟨x, b1, b2, i1, i2, g1, g2, seed, sgN L1.v seed next, L3, L4⟩) rfl
    have hkp := kp_sg L1.v seed next
    have e3 : L3.s = (sgL L1.v seed next).s := congrArg LV.s hv3
    refine end1 S (fun _ => ⟨rfl, _, q1, q2, rfl, ⟨hv3.trans hv4.symm, by show L3.v.Wf _; rw [hv3]; exact (sgL_wf hwf seed next).more (by omega), by show Nd L3.s; rw [e3]; exact hkp.1 hnd, by show 1 ≤ L3.s.size ∧ L3.s.size ≤ _; rw [e3, hkp.2]; exact hsz, sgN_le hnx⟩⟩)
  · refine c_seq ?_
    refine c_region ?_
    iterate 3 (refine sq S ?_; clear S; intro a S)
    refine wl_nil ?_
    refine xtn ?_
    refine c_cond S (fun h6 => ?_) (fun h6 => ?_)
    · refine c_seq ?_
      replace S := S.front (sgI i1 b1 g1 seed (next : Nat) L1)
      replace S := S.ofBoth
      replace S := S.front (lgI b1 g1 L1)
      replace S := S.ofBoth
      replace S := S.front (mdI i2 b2 g2 seed (next : Nat) L2)
      replace S := S.ofBoth
      replace S := S.front (lgI b2 g2 L2)
      replace S := S.ofBoth
      obtain ⟨n5, hn5⟩ : ∃ n5, n5 = IntKind.i64.wrap ((IntKind.u64.wrap o.n).tmod 12) := ⟨_, rfl⟩
      refine c_drawE [(0, true), (1, true), (2, true), (3, true), (4, true), (5, true), (6, true), (7, true), (8, true), (10, true), (11, true), (12, true), (13, true), (14, true), (15, true), (16, true), (17, true), (18, true), (9, false), (19, false), (20, true), (21, true)] [Wk.box b3 38 (cSop o), Wk.box x 55 (cPR ⟨x, b1, b2, i1, i2, g1, g2, seed, next, L1, L2⟩)] S ?_; clear S; intro w S
      iterate 18 (refine dq S ?_; clear S; intro a S)
      refine dl ?_
      rw [← hn5] at S
      refine sit (dkI b1 L1.m L1.p L1.c L1.s) S (dfail_c b1 L1.m L1.p L1.c L1.s n5 _ (S.it (dkI b1 L1.m L1.p L1.c L1.s))) rfl ?_; clear S; rintro _ a w ⟨rfl, hh3⟩ hS
      have S := hS (dkI b1 L1.m L1.p L1.c (failD L1.s n5)) hh3 (fun k hk => .inl hk)
      clear hS
      refine de S ?_
      refine dl ?_
      refine sit (dkI b2 L2.m L2.p L2.c L2.s) S (dfail_c b2 L2.m L2.p L2.c L2.s n5 _ (S.it (dkI b2 L2.m L2.p L2.c L2.s))) rfl ?_; clear S; rintro _ a w ⟨rfl, hh4⟩ hS
      have S := hS (dkI b2 L2.m L2.p L2.c (failD L2.s n5)) hh4 (fun k hk => .inl hk)
      clear hS
      rw [hss] at S
      refine de S ?_
      refine dq S ?_; clear S; intro a S
      rw [show decide ((if L1.s.out = true then (9 : Int) else 0) = (if L1.s.out = true then 9 else 0)) = true from by simp] at S
      refine dq S ?_; clear S; intro a S
      refine dn ?_
      refine xtn ?_
      refine c_ret ?_
      refine xbr ?_
      refine xtr ?_
      replace S := S.front (dkI b2 L2.m L2.p L2.c (failD L1.s n5))
      replace S := S.toBoth
      replace S := S.front (Wk.box i2 99 (cSg g2 seed (next : Nat)))
      replace S := S.toBoth
      replace S := S.front (walI g1 b1 L1.q L1.e L1.x)
      replace S := S.front (dkI b1 L1.m L1.p L1.c (failD L1.s n5))
      replace S := S.toBoth
      replace S := S.front (Wk.box i1 79 (cSg g1 seed (next : Nat)))
      replace S := S.toBoth
      replace S := S.front (Wk.box x 55 (cPR ⟨x, b1, b2, i1, i2, g1, g2, seed, next, L1, L2⟩))
      replace S := St.close3 S
      replace S := S.sub [prI ⟨x, b1, b2, i1, i2, g1, g2, seed, next, L1.set3 L1.p L1.c (failD L1.s n5), L2.set3 L2.p L2.c (failD L1.s n5)⟩] []
      have q1 := S.it (prI ⟨x, b1, b2, i1, i2, g1, g2, seed, next, L1.set3 L1.p L1.c (failD L1.s n5), L2.set3 L2.p L2.c (failD L1.s n5)⟩)
      have q2 := S.itNew (prI ⟨x, b1, b2, i1, i2, g1, g2, seed, next, L1.set3 L1.p L1.c (failD L1.s n5), L2.set3 L2.p L2.c (failD L1.s n5)⟩) rfl
      have hlo : (failD L1.s n5).loose = L1.s.loose := by unfold failD; split <;> rfl
      exact end1 S (fun _ => ⟨rfl, _, q1, q2, rfl, prOk_set h (kp_fail L1.s n5) (by rw [hlo]; omega) _ _ _ _⟩)
    · refine c_seq ?_
      refine c_region ?_
      iterate 3 (refine sq S ?_; clear S; intro a S)
      refine wl_nil ?_
      refine xtn ?_
      refine c_cond S (fun h8 => ?_) (fun h8 => ?_)
      · refine c_seq ?_
        replace S := S.front (sgI i1 b1 g1 seed (next : Nat) L1)
        replace S := S.ofBoth
        replace S := S.front (lgI b1 g1 L1)
        replace S := S.ofBoth
        replace S := S.front (mdI i2 b2 g2 seed (next : Nat) L2)
        replace S := S.ofBoth
        replace S := S.front (lgI b2 g2 L2)
        replace S := S.ofBoth
        obtain ⟨n5, hn5⟩ : ∃ n5, n5 = IntKind.i64.wrap ((IntKind.u64.wrap o.n).tmod 12) := ⟨_, rfl⟩
        refine c_drawE [(0, true), (1, true), (2, true), (3, true), (4, true), (5, true), (6, true), (7, true), (8, true), (10, true), (11, true), (12, true), (13, true), (14, true), (15, true), (16, true), (17, true), (18, true), (9, false), (19, false), (20, true), (21, true)] [Wk.box b3 38 (cSop o), Wk.box x 55 (cPR ⟨x, b1, b2, i1, i2, g1, g2, seed, next, L1, L2⟩)] S ?_; clear S; intro w S
        iterate 18 (refine dq S ?_; clear S; intro a S)
        refine dl ?_
        rw [← hn5] at S
        refine sit (dkI b1 L1.m L1.p L1.c L1.s) S (darm_c b1 L1.m L1.p L1.c L1.s n5 _ (S.it (dkI b1 L1.m L1.p L1.c L1.s))) rfl ?_; clear S; rintro _ a w ⟨rfl, hh3⟩ hS
        have S := hS (dkI b1 L1.m L1.p L1.c (armD L1.s n5)) hh3 (fun k hk => .inl hk)
        clear hS
        refine de S ?_
        refine dl ?_
        refine sit (dkI b2 L2.m L2.p L2.c L2.s) S (darm_c b2 L2.m L2.p L2.c L2.s n5 _ (S.it (dkI b2 L2.m L2.p L2.c L2.s))) rfl ?_; clear S; rintro _ a w ⟨rfl, hh4⟩ hS
        have S := hS (dkI b2 L2.m L2.p L2.c (armD L2.s n5)) hh4 (fun k hk => .inl hk)
        clear hS
        rw [hss] at S
        refine de S ?_
        refine dq S ?_; clear S; intro a S
        rw [show decide ((if L1.s.out = true then (9 : Int) else 0) = (if L1.s.out = true then 9 else 0)) = true from by simp] at S
        refine dq S ?_; clear S; intro a S
        refine dn ?_
        refine xtn ?_
        refine c_ret ?_
        refine xbr ?_
        refine xtr ?_
        replace S := S.front (dkI b2 L2.m L2.p L2.c (armD L1.s n5))
        replace S := S.toBoth
        replace S := S.front (Wk.box i2 99 (cSg g2 seed (next : Nat)))
        replace S := S.toBoth
        replace S := S.front (walI g1 b1 L1.q L1.e L1.x)
        replace S := S.front (dkI b1 L1.m L1.p L1.c (armD L1.s n5))
        replace S := S.toBoth
        replace S := S.front (Wk.box i1 79 (cSg g1 seed (next : Nat)))
        replace S := S.toBoth
        replace S := S.front (Wk.box x 55 (cPR ⟨x, b1, b2, i1, i2, g1, g2, seed, next, L1, L2⟩))
        replace S := St.close3 S
        replace S := S.sub [prI ⟨x, b1, b2, i1, i2, g1, g2, seed, next, L1.set3 L1.p L1.c (armD L1.s n5), L2.set3 L2.p L2.c (armD L1.s n5)⟩] []
        have q1 := S.it (prI ⟨x, b1, b2, i1, i2, g1, g2, seed, next, L1.set3 L1.p L1.c (armD L1.s n5), L2.set3 L2.p L2.c (armD L1.s n5)⟩)
        have q2 := S.itNew (prI ⟨x, b1, b2, i1, i2, g1, g2, seed, next, L1.set3 L1.p L1.c (armD L1.s n5), L2.set3 L2.p L2.c (armD L1.s n5)⟩) rfl
        have hlo : (armD L1.s n5).loose = L1.s.loose := by unfold armD; split <;> rfl
        exact end1 S (fun _ => ⟨rfl, _, q1, q2, rfl, prOk_set h (kp_arm L1.s n5) (by rw [hlo]; omega) _ _ _ _⟩)
      · refine c_skip ?_
        refine xbn ?_
        refine xtn ?_
        iterate 2 (refine c_seq ?_)
        replace S := S.front (sgI i1 b1 g1 seed (next : Nat) L1)
        replace S := S.ofBoth
        replace S := S.front (lgI b1 g1 L1)
        replace S := S.ofBoth
        replace S := S.front (mdI i2 b2 g2 seed (next : Nat) L2)
        replace S := S.ofBoth
        replace S := S.front (lgI b2 g2 L2)
        replace S := S.ofBoth
        refine c_drawE [(0, true), (1, true), (2, true), (3, true), (5, true), (6, true), (4, false), (7, false), (8, false), (9, true), (10, true), (11, true), (12, true), (13, true), (14, true), (16, true), (17, true), (15, false), (18, false), (19, false), (20, true), (21, true)] [Wk.box b3 38 (cSop o), Wk.box x 55 (cPR ⟨x, b1, b2, i1, i2, g1, g2, seed, next, L1, L2⟩)] S ?_; clear S; intro w S
        iterate 6 (refine dq S ?_; clear S; intro a S)
        refine dl ?_
        refine sn S ?_; clear S; intro b97 a w S
        replace S := S.boxRow b97 1 0 rfl (by decide)
        refine de S ?_
        refine dl ?_
        refine sap S (by omega) (by omega) ?_; clear S; rintro p8 c8 a w - S
        rw [List.nil_append, Nat.zero_add] at S
        replace S := S.rowToGl p8 o.keep (e := 4) (sz := 1) (n := o.keep.length) (c := c8) (fun _ _ _ _ => trivial)
        refine de S ?_
        refine dl ?_
        refine sit (dkI b1 L1.m L1.p L1.c L1.s) S (dcrash_c b1 L1.m L1.p L1.c L1.s o.keep p8 c8 _ (by omega) (S.it (dkI b1 L1.m L1.p L1.c L1.s)) (S.lend (dkI b1 L1.m L1.p L1.c L1.s) (S.mem.fact (GlF p8 o.keep)))) rfl ?_; clear S; rintro _ a w ⟨rfl, hh3⟩ hS
        have S := hS (dkI b1 L1.m none 0 (crashD o.keep L1.s)) hh3 (fun k hk => .inl (crash_foot k hk))
        clear hS
        refine de S ?_
        refine dq S ?_; clear S; intro a S
        rw [show (!decide ((0 : Int) = 0)) = false from rfl] at S
        refine dq S ?_; clear S; intro a S
        iterate 6 (refine dqG S ?_; clear S; intro a S)
        refine dl ?_
        refine gT' S ?_
        refine sn S ?_; clear S; intro b108 a w S
        replace S := S.boxRow b108 1 0 rfl (by decide)
        refine de S ?_
        refine dl ?_
        refine gT' S ?_
        refine sap S (by omega) (by omega) ?_; clear S; rintro p9 c9 a w - S
        rw [List.nil_append, Nat.zero_add] at S
        replace S := S.rowToGl p9 o.keep (e := 4) (sz := 1) (n := o.keep.length) (c := c9) (fun _ _ _ _ => trivial)
        refine de S ?_
        refine dl ?_
        refine gT' S ?_
        refine sit (dkI b2 L2.m L2.p L2.c L2.s) S (dcrash_c b2 L2.m L2.p L2.c L2.s o.keep p9 c9 _ (by omega) (S.it (dkI b2 L2.m L2.p L2.c L2.s)) (S.lend (dkI b2 L2.m L2.p L2.c L2.s) (S.mem.fact (GlF p9 o.keep)))) rfl ?_; clear S; rintro _ a w ⟨rfl, hh4⟩ hS
        have S := hS (dkI b2 L2.m none 0 (crashD o.keep L2.s)) hh4 (fun k hk => .inl (crash_foot k hk))
        clear hS
        rw [hss] at S
        refine de S ?_
        refine dqG S ?_; clear S; intro a S
        rw [show (!decide ((0 : Int) = 0)) = false from rfl] at S
        refine dq S ?_; clear S; intro a S
        refine dn ?_
        refine xtn ?_
        refine c_condF S ?_
        refine c_skip ?_
        refine xtn ?_
        refine c_seq ?_
        replace S := S.front (dkI b2 L2.m none 0 (crashD o.keep L1.s))
        replace S := S.toBoth
        replace S := S.front (Wk.box i2 99 (cSg g2 seed (next : Nat)))
        replace S := S.toBoth
        replace S := S.front (walI g1 b1 L1.q L1.e L1.x)
        replace S := S.front (dkI b1 L1.m none 0 (crashD o.keep L1.s))
        replace S := S.toBoth
        replace S := S.front (Wk.box i1 79 (cSg g1 seed (next : Nat)))
        replace S := S.toBoth
        replace S := S.front (Wk.box x 55 (cPR ⟨x, b1, b2, i1, i2, g1, g2, seed, next, L1, L2⟩))
        replace S := St.close3 S
        replace S := S.sub [prI ⟨x, b1, b2, i1, i2, g1, g2, seed, next, L1.set3 none 0 (crashD o.keep L1.s), L2.set3 none 0 (crashD o.keep L1.s)⟩] []
        have hok1 : PrOk ⟨x, b1, b2, i1, i2, g1, g2, seed, next, L1.set3 none 0 (crashD o.keep L1.s), L2.set3 none 0 (crashD o.keep L1.s)⟩ (k + 1000) := by
          have hl0 : (crashD o.keep L1.s).loose.length ≤ 0 := Nat.le_refl _
          obtain ⟨w1, w2, w3, w4, w5⟩ := prOk_set h (kp_crash o.keep L1.s) (by omega) none none 0 0
          exact ⟨w1, ⟨w2.n, w2.fin, w2.some_, w2.few, w2.short, w2.turn, by show (crashD o.keep L1.s).loose.length ≤ _; omega⟩, w3, w4, w5⟩
        refine c_region ?_
        refine sq S ?_; clear S; intro a S
        refine sit (prI ⟨x, b1, b2, i1, i2, g1, g2, seed, next, L1.set3 none 0 (crashD o.keep L1.s), L2.set3 none 0 (crashD o.keep L1.s)⟩) S (again_c _ (k + 1000) hok1 (by omega) _ (S.it (prI ⟨x, b1, b2, i1, i2, g1, g2, seed, next, L1.set3 none 0 (crashD o.keep L1.s), L2.set3 none 0 (crashD o.keep L1.s)⟩))) rfl ?_; clear S; rintro _ a w ⟨rfl, r', hh5, hf5, hx5, hok5⟩ hS
        have S := hS (prI r') hh5 hf5
        clear hS
        refine sq S ?_; clear S; intro a S
        refine wl_nil ?_
        refine xtn ?_
        refine c_ret ?_
        have q1 := S.it (prI r')
        have q2 := S.itNew (prI r') rfl
        exact end1 S (fun _ => ⟨rfl, r', q1, q2, hx5, hok5⟩)
end Go.Proofs.YtlphkccfcodmcaaGreat

/- The laws of layer 10: both begin. -/
namespace Go.Proofs.YtlphkccfcodmcaaGreat
open Go Go.Wk
set_option synthInstance.maxSize 100000
set_option synthInstance.maxHeartbeats 400000
set_option maxRecDepth 100000

theorem begun_c (area : Int) (seed : Dg) (w0 : World) : Ret Tryz.prog 19 [.int .i64 area, vDg seed] w0 (fun _ => False) fun v w' => ∃ r, v = .pointer (some ⟨r.x, 0, none⟩) ∧ (prI r).holds w' ∧ (∀ k, (prI r).foot k → w0.heap.size ≤ k) ∧ PrOk r 3000 ∧ r.seed = seed ∧ r.next = 0 ∧
    r.L1.v = (chkV (fmtV (sAreaN area) (newD ((2 * sAreaN area + 2 : Nat) : Int))) (laidD seed 0)).1 := by
  obtain ⟨n, hn⟩ : ∃ n, n = sAreaN area := ⟨_, rfl⟩
  have hn4 : 4 ≤ n ∧ n ≤ 9 := by rw [hn, sAreaN]; omega
  obtain ⟨hc, hok, hoff, hlv⟩ := fmt_sg n (by omega) seed
  have hmay : mayF (newD ((2 * n + 2 : Nat) : Int)) n = true := by simp [mayF, newD]; omega
  rw [← hn]
  refine enter Tryz.func19 rfl rfl (Wd.start w0) (fun a S => ?_)
  simp only [Tryz.ntmps19, List.length_cons, List.length_nil, Nat.reduceAdd, Nat.reduceSub, List.replicate_succ, List.replicate_zero, List.cons_append, List.nil_append] at S
  refine c_seq ?_
  refine c_region ?_
  refine sa S ?_; clear S; intro b3 a w S
  refine sq S ?_; clear S; intro a S
  refine wl_nil ?_
  refine xtn ?_
  refine c_seq ?_
  refine c_region ?_
  iterate 5 (refine sq S ?_; clear S; intro a S)
  rw [sArea_w, ← hn] at S
  refine sq S ?_; clear S; intro a S
  refine wl_nil ?_
  refine xtn ?_
  refine c_seq ?_
  refine c_region ?_
  refine sq S ?_; clear S; intro a S
  refine sa S ?_; clear S; intro b17 a w S
  refine sq S ?_; clear S; intro a S
  refine wl_nil ?_
  refine xtn ?_
  refine c_seq ?_
  refine c_region ?_
  iterate 3 (refine sq S ?_; clear S; intro a S)
  rw [w64 (2 * (n : Int)) (by omega) (by omega)] at S
  refine sq S ?_; clear S; intro a S
  rw [show IntKind.i64.wrap (2 + 2 * (n : Int)) = ((2 * n + 2 : Nat) : Int) from by rw [w64 _ (by omega) (by omega)]; omega] at S
  refine snew S (dnew_dk ((2 * n + 2 : Nat) : Int) (by omega) _) ?_; clear S; rintro _ a w - ⟨b1, m1, rfl, hh1, hnw1⟩ hS -
  have S := hS (dkI b1 m1 none 0 (newD ((2 * n + 2 : Nat) : Int))) hh1 hnw1
  clear hS
  iterate 5 (refine sq S ?_; clear S; intro a S)
  refine sw S ?_; clear S; intro a w S
  refine wl_nil ?_
  refine xtn ?_
  refine c_seq ?_
  refine c_region ?_
  iterate 3 (refine sq S ?_; clear S; intro a S)
  rw [w64 (2 * (n : Int)) (by omega) (by omega)] at S
  refine sq S ?_; clear S; intro a S
  rw [show IntKind.i64.wrap (2 + 2 * (n : Int)) = ((2 * n + 2 : Nat) : Int) from by rw [w64 _ (by omega) (by omega)]; omega] at S
  refine snew S (dnew_dk ((2 * n + 2 : Nat) : Int) (by omega) _) ?_; clear S; rintro _ a w - ⟨b2, m2, rfl, hh2, hnw2⟩ hS -
  have S := hS (dkI b2 m2 none 0 (newD ((2 * n + 2 : Nat) : Int))) hh2 hnw2
  clear hS
  iterate 5 (refine sq S ?_; clear S; intro a S)
  refine sw S ?_; clear S; intro a w S
  refine wl_nil ?_
  refine xtn ?_
  iterate 2 (refine c_seq ?_)
  refine c_region ?_
  iterate 6 (refine sq S ?_; clear S; intro a S)
  iterate 5 (refine gQ S ?_; clear S; intro a S)
  refine sq S ?_; clear S; intro a S
  refine wl_nil ?_
  refine xtn ?_
  refine c_condF S ?_
  refine c_skip ?_
  refine xtn ?_
  refine c_seq ?_
  refine c_drawE [(0, true), (1, true), (2, true), (3, true), (4, true), (5, true), (6, false), (7, true), (8, true), (9, true), (10, true), (11, true)] [Wk.box b17 55 [.pointer (some ⟨b1, 0, none⟩), .pointer (some ⟨b2, 0, none⟩), .pointer none, .pointer none], Wk.box b3 23 (encL seed.l)] S ?_; clear S; intro w S
  iterate 6 (refine dq S ?_; clear S; intro a S)
  refine dl ?_
  refine sit (dkI b1 m1 none 0 (newD ((2 * n + 2 : Nat) : Int))) S (sformat_c b1 m1 n none 0 (newD ((2 * n + 2 : Nat) : Int)) seed _ hmay (by simp [newD]) (format_live n (by omega)).1 hc (S.it (dkI b1 m1 none 0 (newD ((2 * n + 2 : Nat) : Int))))) rfl ?_; clear S; rintro _ a w ⟨i1, g1, L1, rfl, hh3, hf3, hm3, hv3⟩ hS
  have S := hS (sgI i1 b1 g1 seed ((0 : Nat) : Int) L1) hh3 hf3
  clear hS
  refine de S ?_
  iterate 5 (refine dq S ?_; clear S; intro a S)
  refine dn ?_
  refine xtn ?_
  refine c_seq ?_
  refine c_drawE [(0, true), (1, true), (2, true), (3, true), (4, true), (5, true), (6, false), (7, true), (8, true), (9, true), (10, true), (11, true)] [Wk.box b17 55 [.pointer (some ⟨b1, 0, none⟩), .pointer (some ⟨b2, 0, none⟩), .pointer none, .pointer none], Wk.box b3 23 (encL seed.l)] S ?_; clear S; intro w S
  iterate 6 (refine dq S ?_; clear S; intro a S)
  refine dl ?_
  refine sit (dkI b2 m2 none 0 (newD ((2 * n + 2 : Nat) : Int))) S (mformat_c b2 m2 n none 0 (newD ((2 * n + 2 : Nat) : Int)) seed _ hmay (by simp [newD]) (format_live n (by omega)).1 hc (S.it (dkI b2 m2 none 0 (newD ((2 * n + 2 : Nat) : Int))))) rfl ?_; clear S; rintro _ a w ⟨i2, g2, L2, rfl, hh4, hf4, hm4, hv4⟩ hS
  have S := hS (mdI i2 b2 g2 seed ((0 : Nat) : Int) L2) hh4 hf4
  clear hS
  refine de S ?_
  iterate 5 (refine dq S ?_; clear S; intro a S)
  refine dn ?_
  refine xtn ?_
  iterate 2 (refine c_seq ?_)
  refine c_region ?_
  iterate 3 (refine sq S ?_; clear S; intro a S)
  iterate 2 (refine gQ S ?_; clear S; intro a S)
  iterate 2 (refine sq S ?_; clear S; intro a S)
  iterate 2 (refine gQ S ?_; clear S; intro a S)
  refine sq S ?_; clear S; intro a S
  refine wl_nil ?_
  refine xtn ?_
  refine c_condF S ?_
  refine c_skip ?_
  refine xtn ?_
  refine c_seq ?_
  refine c_region ?_
  iterate 6 (refine sq S ?_; clear S; intro a S)
  refine sw S ?_; clear S; intro a w S
  iterate 2 (refine sq S ?_; clear S; intro a S)
  refine sw S ?_; clear S; intro a w S
  refine wl_nil ?_
  refine xtn ?_
  refine c_seq ?_
  refine c_region ?_
  iterate 2 (refine sq S ?_; clear S; intro a S)
  refine wl_nil ?_
  refine xtn ?_
  refine c_ret ?_
  replace S := S.front (mdI i2 b2 g2 seed ((0 : Nat) : Int) L2)
  replace S := S.front (sgI i1 b1 g1 seed ((0 : Nat) : Int) L1)
  replace S := S.front (Wk.box b17 55 [.pointer (some ⟨b1, 0, none⟩), .pointer (some ⟨b2, 0, none⟩), .pointer (some ⟨i1, 0, none⟩), .pointer (some ⟨i2, 0, none⟩)])
  replace S := St.close3 S
  replace S := S.sub [prI ⟨b17, b1, b2, i1, i2, g1, g2, seed, 0, L1, L2⟩] []
  have q1 := S.it (prI ⟨b17, b1, b2, i1, i2, g1, g2, seed, 0, L1, L2⟩)
  have q2 := S.itNew (prI ⟨b17, b1, b2, i1, i2, g1, g2, seed, 0, L1, L2⟩) rfl
  have hkp : Kp (newD ((2 * n + 2 : Nat) : Int)) L1.s := by
    rw [show L1.s = (chkV (fmtV n (newD ((2 * n + 2 : Nat) : Int))) (laidD seed 0)).1.s from congrArg LV.s hv3]
    exact (kp_fmt n _).trans (kp_chk (fmtV n (newD ((2 * n + 2 : Nat) : Int))) _)
  refine end1 S (fun _ => ⟨_, rfl, q1, fun k hk => (q2 k hk).elim (fun h => h.elim) id, ⟨hv3.trans hv4.symm, by show L1.v.Wf _; rw [hv3]; exact hok.wf.more (by omega), hkp.1 List.nodup_nil, ?_, Nat.zero_le _⟩, rfl, rfl, hv3⟩)
  show 1 ≤ L1.s.size ∧ L1.s.size ≤ 4096
  rw [hkp.2]
  show 1 ≤ ((2 * n + 2 : Nat) : Int) ∧ ((2 * n + 2 : Nat) : Int) ≤ 4096
  omega
theorem sdoes_c (area : Int) (seed : Dg) (pl : Option Addr) (cl : Nat) (l : List LSop) (hcl : l.length ≤ cl) (hz : ∀ x ∈ l, x.keep.length ≤ 140737488355328) (w0 : World) (f0 : Stable (fun _ => False) w0 (GlF pl l)) :
    Ret Tryz.prog 4 [.int .i64 area, vDg seed, .slice pl l.length cl] w0 (fun _ => False) fun v _ => v = .bool true := by
  refine enter Tryz.func4 rfl rfl (Wd.begin (fs := [GlF pl l]) (by simpa using f0)) (fun a S => ?_)
  simp only [Tryz.ntmps4, List.length_cons, List.length_nil, Nat.reduceAdd, Nat.reduceSub, List.replicate_succ, List.replicate_zero, List.cons_append, List.nil_append] at S
  refine c_seq ?_
  refine c_region ?_
  refine sa S ?_; clear S; intro b4 a w S
  refine sq S ?_; clear S; intro a S
  refine wl_nil ?_
  refine xtn ?_
  iterate 2 (refine c_seq ?_)
  refine c_region ?_
  refine sr S (swakes_c _) ?_; clear S; rintro _ a w rfl S
  refine sq S ?_; clear S; intro a S
  refine wl_nil ?_
  refine xtn ?_
  refine c_condF S ?_
  refine c_skip ?_
  refine xtn ?_
  refine c_seq ?_
  refine c_region ?_
  iterate 2 (refine sq S ?_; clear S; intro a S)
  refine snew S (begun_c area seed _) ?_; clear S; rintro _ a w - ⟨r0, rfl, hh, hnw, hok0, hsd, hnx, -⟩ hS -
  have S := hS (prI r0) hh hnw
  clear hS
  refine sq S ?_; clear S; intro a S
  refine wl_nil ?_
  refine xtn ?_
  iterate 2 (refine c_seq ?_)
  replace S := S.front (prI r0)
  replace S := St.open3 S
  refine c_drawD [(0, true), (1, true), (2, true), (3, true), (4, false), (5, true), (6, true), (7, true), (8, true), (9, true), (10, true), (11, true), (13, true), (12, false), (14, false), (15, true), (16, true)] [] S ?_; clear S; intro w S
  iterate 3 (refine dq S ?_; clear S; intro a S)
  refine dqG S ?_; clear S; intro a S
  refine dl ?_
  refine gT' S ?_
  refine sr S (sagrees_c r0 hok0.same _ ((St.close3 S).it (prI r0))) ?_; clear S; rintro _ a w rfl S
  refine de S ?_
  refine dqG S ?_; clear S; intro a S
  refine dq S ?_; clear S; intro a S
  rw [show (!true) = false from rfl] at S
  refine dq S ?_; clear S; intro a S
  iterate 5 (refine dqG S ?_; clear S; intro a S)
  refine dl ?_
  refine gT' S ?_
  refine sr S (sg_root r0.h1 r0.b1 r0.g1 r0.seed (r0.next : Nat) r0.L1 _ (S.it (sgI r0.h1 r0.b1 r0.g1 r0.seed (r0.next : Nat) r0.L1))) ?_; clear S; rintro _ a w rfl S
  refine de S ?_
  refine dl ?_
  refine gT' S ?_
  refine sr S (mroot_c seed _) ?_; clear S; rintro _ a w rfl S
  refine de S ?_
  refine dqG S ?_; clear S; intro a S
  rw [show (!decide ((rootD r0.seed).l = (rootD seed).l)) = false from by rw [hsd]; simp] at S
  refine dq S ?_; clear S; intro a S
  refine dn ?_
  refine xtn ?_
  refine c_condF S ?_
  refine c_skip ?_
  refine xtn ?_
  iterate 2 (refine c_seq ?_)
  replace S := St.close3 S
  refine c_region ?_
  refine sq S ?_; clear S; intro a S
  refine sr S (sfew_c pl cl l 14 hcl _) ?_; clear S; rintro _ a w rfl S
  obtain ⟨ops, hops⟩ : ∃ ops, ops = l.take 14 := ⟨_, rfl⟩
  have hopl : ops.length = min l.length 14 := by rw [hops, List.length_take]; omega
  rw [← hopl] at S
  replace S := S.add (Φ := GlF pl ops) ((S.mem.fact (GlF pl l)).imp fun _ h => by rw [hops]; exact h.take 14)
  iterate 2 (refine sq S ?_; clear S; intro a S)
  refine wl_nil ?_
  refine xtn ?_
  refine c_block ?_
  refine c_fore2 S (fun (k : Nat) (r : PR) uu => [(6, uu 6), (2, uu 9), (25, .int .i64 (k : Nat)), (0, uu 36), (0, uu 37), (0, uu 38), (0, uu 39), (0, uu 40), (0, uu 41), (0, uu 42), (0, uu 43), (0, uu 44), (0, uu 45), (0, uu 46), (0, uu 47), (0, uu 48)]) (fun (k : Nat) (r : PR) => [prI r]) (fun (k : Nat) (r : PR) => [GlF pl ops]) (fun (k : Nat) (r : PR) => k ≤ ops.length ∧ r.x = r0.x ∧ PrOk r (3000 + 2000 * k)) (fun (k : Nat) (r : PR) => ops.length - k) (0) (r0) ?_ S.uu ?_ ?_
  · exact ⟨Nat.zero_le _, rfl, hok0⟩
  · exact S.sub [prI r0] [GlF pl ops]
  · clear S; rintro k r uu a w ⟨hk, hx, hok⟩ S
    refine c_seq ?_
    refine c_region ?_
    refine sq S ?_; clear S; intro a S
    refine wl_nil ?_
    refine xtn ?_
    refine c_seq ?_
    refine c_cond S (fun h7 => ?_) (fun h7 => ?_)
    · refine c_skip ?_
      refine xtn ?_
      refine c_seq ?_
      refine c_block ?_
      refine c_seq ?_
      have hk2 : k < ops.length := by have := of_decide_eq_true h7; omega
      have hK : KLt k ops.length := ⟨hk2⟩
      obtain ⟨o, ho⟩ : ∃ o, o = nthG ops k := ⟨_, rfl⟩
      have hom : o ∈ ops := ho ▸ nthG_mem hk2
      obtain ⟨hkc, hkf⟩ := sop_keep hom (S.mem.fact (GlF pl ops))
      replace S := S.add hkf
      refine c_region ?_
      iterate 2 (refine sq S ?_; clear S; intro a S)
      rw [← ho] at S
      refine sa S ?_; clear S; intro b9 a w S
      refine sw S ?_; clear S; intro a w S
      refine wl_nil ?_
      refine xtn ?_
      refine c_seq ?_
      refine c_region ?_
      iterate 2 (refine sq S ?_; clear S; intro a S)
      have hc := does_c r (3000 + 2000 * k) hok (by omega) o hkc (hz o (List.mem_of_mem_take (hops ▸ hom))) w (S.it (prI r)) (S.lend (prI r) (S.mem.fact (GlF o.p o.keep)))
      rw [hx] at hc
      refine sit (prI r) S hc rfl ?_; clear S hc; rintro _ a w ⟨rfl, r', hh5, hf5, hx5, hok5⟩ hS
      have S := hS (prI r') hh5 hf5
      clear hS
      refine sq S ?_; clear S; intro a S
      rw [show (!true) = false from rfl] at S
      refine sq S ?_; clear S; intro a S
      refine gT' S ?_
      refine sq S ?_; clear S; intro a S
      refine gT' S ?_
      have ha := sagrees_c r' hok5.same w (S.it (prI r'))
      rw [hx5] at ha
      refine sr S ha ?_; clear S ha; rintro _ a w rfl S
      refine gT' S ?_
      refine sq S ?_; clear S; intro a S
      rw [show (!true) = false from rfl] at S
      refine sq S ?_; clear S; intro a S
      refine wl_nil ?_
      refine xtn ?_
      refine c_condF S ?_
      refine c_skip ?_
      refine xbn ?_
      refine xtn ?_
      refine c_region ?_
      iterate 2 (refine sq S ?_; clear S; intro a S)
      refine wl_nil ?_
      refine xtn ?_
      rw [w64 ((k : Int) + 1) (by omega) (by omega)] at S
      refine ⟨k + 1, r', S.uu, ⟨hk2, hx5, ?_⟩, (S.front (prI r')).sub _ _, by omega⟩
      rw [show 3000 + 2000 * (k + 1) = 3000 + 2000 * k + 2000 from by omega]; exact hok5
    · refine c_exit ?_
      iterate 2 (refine xte ?_)
      refine xbe ?_
      refine xtn ?_
      refine c_seq ?_
      replace S := St.open3 S
      replace S := S.front (sgI r.h1 r.b1 r.g1 r.seed (r.next : Nat) r.L1)
      replace S := S.ofBoth
      replace S := S.front (lgI r.b1 r.g1 r.L1)
      replace S := S.ofBoth
      replace S := S.front (mdI r.h2 r.b2 r.g2 r.seed (r.next : Nat) r.L2)
      replace S := S.ofBoth
      replace S := S.front (lgI r.b2 r.g2 r.L2)
      replace S := S.ofBoth
      replace S := S.front (dkI r.b1 r.L1.m r.L1.p r.L1.c r.L1.s)
      have hss : r.L2.s = r.L1.s := (congrArg LV.s hok.same).symm
      rw [hss, hx] at S
      replace S := S.toBoth
      have hlo : r.L1.s.loose.length ≤ 3000 + 2000 * k := hok.wf.loose
      refine c_drawE [(0, true), (1, true), (2, true), (3, true), (4, true), (5, true), (6, true), (7, true), (8, false), (9, true)] [Wk.box r0.x 55 (cPR r)] S ?_; clear S; intro w S
      iterate 8 (refine dq S ?_; clear S; intro a S)
      refine dl ?_
      refine sit (both (dkI r.b1 r.L1.m r.L1.p r.L1.c r.L1.s) (dkI r.b2 r.L2.m r.L2.p r.L2.c r.L1.s)) S (alike_c r.b1 r.L1.m r.L1.p r.L1.c r.b2 r.L2.m r.L2.p r.L2.c r.L1.s (by omega) hok.size hok.nd _ (S.it (both (dkI r.b1 r.L1.m r.L1.p r.L1.c r.L1.s) (dkI r.b2 r.L2.m r.L2.p r.L2.c r.L1.s)))) rfl ?_; clear S; rintro _ a w ⟨rfl, hh⟩ hS
      have S := hS (both (dkI r.b1 r.L1.m r.L1.p r.L1.c r.L1.s) (dkI r.b2 r.L2.m r.L2.p r.L2.c r.L1.s)) hh (fun k hk => .inl hk)
      clear hS
      refine de S ?_
      refine dq S ?_; clear S; intro a S
      refine dn ?_
      refine xtn ?_
      refine c_ret ?_
      exact end1 S (fun _ => rfl)
end Go.Proofs.YtlphkccfcodmcaaGreat

/- Disks where nothing is to fail; the laws of layer 10: both are opened, or laid anew. -/
namespace Go.Proofs.YtlphkccfcodmcaaGreat
open Go Go.Wk
set_option synthInstance.maxSize 100000
set_option synthInstance.maxHeartbeats 400000
set_option maxRecDepth 100000

/-- nothing is to fail. -/
structure Calm (s : DS) : Prop where
  out : s.out = false
  fails : s.fails.on = false
  arms : s.arms.on = false
def Kc (s s' : DS) : Prop := Calm s → Calm s'
theorem Kc.refl (s : DS) : Kc s s := id
theorem Kc.trans {a b c : DS} (h : Kc a b) (k : Kc b c) : Kc a c := fun x => k (h x)
theorem kc_ask (s : DS) (k : Int) (b : Bool) : Kc s (askD s k b) := fun h => by
  unfold askD
  rw [if_neg (by rw [h.out]; exact Bool.false_ne_true), met_off h.fails, met_off h.arms]
  split
  · exact h
  · rw [if_neg (by exact Bool.false_ne_true)]
    split
    · rw [if_neg (by exact Bool.false_ne_true)]; exact ⟨h.out, h.fails, h.arms⟩
    · exact ⟨h.out, h.fails, h.arms⟩
theorem kc_op (s : DS) : Kc s (opD s) := fun h => ⟨h.out, h.fails, h.arms⟩
theorem kc_asked (g : DS → DS) (hg : ∀ s, Kc s (g s)) (s : DS) (k : Int) : Kc s (askedD g s k) := by
  unfold askedD
  split
  · exact (kc_ask s k true).trans ((hg _).trans (kc_op _))
  · exact kc_ask s k true
theorem kc_wr (s : DS) (k : Int) (x : Blk) : Kc s (wrD s k x) := kc_asked (fun s => writeD s k x) (fun _ h => ⟨h.out, h.fails, h.arms⟩) s k
theorem kc_sy (s : DS) : Kc s (syD s) := kc_asked (settleD fun _ => true) (fun _ h => ⟨h.out, h.fails, h.arms⟩) s 0
theorem kc_rd (s : DS) (k : Int) : Kc s (rdD s k) := by
  unfold rdD
  split
  · exact (kc_ask s k false).trans (kc_op _)
  · exact kc_ask s k false
theorem kc_layW : ∀ (xs : List Blk) (s : DS) (k : Int), Kc s (layW s k xs).1
  | [], s, _ => Kc.refl s
  | x :: xs, s, k => by
    rw [layW]
    split
    · exact (kc_wr s k x).trans (kc_layW xs _ _)
    · exact kc_wr s k x
theorem kc_layF (s : DS) (k : Int) (xs : List Blk) : Kc s (layF s k xs).1 := by
  rw [layF]
  split
  · exact (kc_layW xs s k).trans (kc_sy _)
  · exact kc_layW xs s k
theorem kc_beg (n : Nat) (t : Int) (bs : List UInt8) (s : DS) : Kc s (begF n t bs s).1 := by
  have e : begF n t bs s = if (layF s (fromN n t : Nat) (leavesF t 0 bs)).2 = 0 then layF (layF s (fromN n t : Nat) (leavesF t 0 bs)).1 ((t % 2).toNat : Nat) [titleF t n] else layF s (fromN n t : Nat) (leavesF t 0 bs) := rfl
  rw [e]
  split
  · exact (kc_layF _ _ _).trans (kc_layF _ _ _)
  · exact kc_layF _ _ _
theorem kc_fmt (n : Nat) (s : DS) : Kc s (fmtF n s).1 := by
  rw [fmtF]
  split
  · exact (kc_layF _ _ _).trans (kc_beg _ _ _ _)
  · exact kc_layF _ _ _
theorem kc_cnt : ∀ (k i : Nat) (s : DS) (B : Bst), Kc s (cntR k i s B).1
  | 0, _, s, B => by rw [cntR]; split <;> exact Kc.refl s
  | k + 1, i, s, B => by
    rw [cntR]
    split
    · exact (kc_rd s i).trans (kc_cnt k _ _ _)
    · exact kc_rd s i
theorem kc_field (fr : Nat) : ∀ (k i : Nat) (s : DS), Kc s (fieldW fr k i s).1
  | 0, _, s => Kc.refl s
  | k + 1, i, s => by
    rw [fieldW]
    split
    · exact (kc_rd s _).trans (kc_field fr k _ _)
    · exact kc_rd s _
theorem kc_clrW (fr : Nat) : ∀ (xs : List Blk) (i : Nat) (sy : Bool) (s : DS), Kc s (clrW fr xs i sy s).1
  | [], _, _, s => Kc.refl s
  | x :: xs, i, sy, s => by
    rw [clrW]
    split
    · exact kc_clrW fr xs _ _ _
    · split
      · exact (kc_wr s _ _).trans (kc_clrW fr xs _ _ _)
      · exact kc_wr s _ _
theorem kc_clr (fr fin : Nat) (f : List Blk) (s : DS) : Kc s (clrF fr fin f s).1 := by
  have h := kc_clrW fr (f.drop fin) fin (decide (0 < s.loose.length)) s
  unfold clrF clrR
  split
  · split
    · exact h.trans (kc_sy _)
    · exact h
  · exact h
theorem kc_open (s : DS) : Kc s (openF s).1 := by
  have h := kc_cnt 2 0 s ⟨false, 0, 0⟩
  rw [openF]
  split
  · refine Kc.trans h ?_
    show Kc (cntF s).1 _
    rw [openB]
    split
    · refine (kc_field (fromN (cntF s).2.2.n.toNat (cntF s).2.2.t) (cntF s).2.2.n.toNat 0 (cntF s).1).trans ?_
      rw [openC]
      split
      · exact Kc.refl _
      · split
        · exact kc_clr _ _ _ _
        · exact kc_clr _ _ _ _
    · exact kc_field _ _ _ _
  · exact h
theorem kc_app (V : LV) (bs : List UInt8) : Kc V.s (appV V bs).1.s := by
  unfold appV
  split
  · exact Kc.refl _
  · split
    · exact kc_layF _ _ _
    · exact kc_layF _ _ _
theorem kc_chk (V : LV) (bs : List UInt8) : Kc V.s (chkV V bs).1.s := by
  unfold chkV
  split
  · exact Kc.refl _
  · split
    · exact kc_beg _ _ _ _
    · exact kc_beg _ _ _ _
theorem Calm.up {s : DS} (h : Calm s) : Up s := ⟨h.out, h.fails⟩
theorem ask_calm {s : DS} (h : Calm s) {k : Int} (hk : 0 ≤ k ∧ k < s.size) : askE s k true = 0 := by rw [ask_up h.up hk, hit_off h.arms]; rfl
theorem layW_calm : ∀ (xs : List Blk) (s : DS) (k : Nat), Calm s → ((k + xs.length : Nat) : Int) ≤ s.size → (layW s k xs).2 = 0
  | [], _, _, _, _ => rfl
  | x :: xs, s, k, h, hk => by
    rw [List.length_cons] at hk
    rw [layW, if_pos (ask_calm h (by omega))]
    have := layW_calm xs (wrD s k x) (k + 1) (kc_wr s k x h) (by rw [(kp_wr s k x).2]; omega)
    exact this
theorem layF_calm (xs : List Blk) (s : DS) (k : Nat) (h : Calm s) (h0 : 0 < s.size) (hk : ((k + xs.length : Nat) : Int) ≤ s.size) : (layF s k xs).2 = 0 := by
  have h1 := layW_calm xs s k h hk
  rw [layF, if_pos h1]
  exact ask_calm (kc_layW xs s k h) (by rw [(kp_layW xs s k).2]; omega)
theorem beg_calm (n : Nat) (t : Int) (bs : List UInt8) (s : DS) (h : Calm s) (hn : n ≤ 1000) (hb : secN bs.length ≤ n) (hk : ((2 * n + 2 : Nat) : Int) ≤ s.size) : (begF n t bs s).2 = 0 := by
  have hfb := from_bound t hn
  have e : begF n t bs s = if (layF s (fromN n t : Nat) (leavesF t 0 bs)).2 = 0 then layF (layF s (fromN n t : Nat) (leavesF t 0 bs)).1 ((t % 2).toNat : Nat) [titleF t n] else layF s (fromN n t : Nat) (leavesF t 0 bs) := rfl
  rw [e, if_pos (layF_calm _ s _ h (by omega) (by rw [leavesF_len]; omega))]
  refine layF_calm _ _ _ (kc_layF _ _ _ h) (by rw [(kp_layF _ _ _).2]; omega) ?_
  rw [(kp_layF _ _ _).2, List.length_singleton]
  omega
theorem fmt_calm (n : Nat) (s : DS) (h : Calm s) (hm : mayF s n = true) : (fmtF n s).2 = 0 := by
  have hn : 4 ≤ n ∧ n ≤ 1000 ∧ 2 * (n : Int) + 2 ≤ s.size := by simp [mayF] at hm; omega
  have h1 := layF_calm (List.replicate (2 * n + 2) zB) s 0 h (by omega) (by rw [List.length_replicate]; omega)
  have h1 : (layF s 0 (List.replicate (2 * n + 2) zB)).2 = 0 := h1
  rw [fmtF, if_pos h1]
  exact beg_calm n 0 [] _ (kc_layF _ _ _ h) hn.2.1 (by show 1 ≤ n; omega) (by rw [(kp_layF _ _ _).2]; omega)
theorem chk_calm (V : LV) (bs : List UInt8) (h : Calm V.s) (hn : V.n ≤ 1000) (hb : secN bs.length ≤ V.n) (hl : bs.length ≤ 40000) (ht : upT V.turn ≠ 0) (hbr : V.broken = false) (hk : ((2 * V.n + 2 : Nat) : Int) ≤ V.s.size) : (chkV V bs).2 = 0 := by
  have hroom : roomC V.x bs = 0 := by
    have e1 : refF V.x bs = 0 := by rw [refF, if_neg (by omega)]; show (if V.broken = true then (8 : Int) else 0) = 0; rw [hbr]; rfl
    rw [roomC, if_pos e1, if_neg]
    rintro (h | h)
    · exact absurd (show V.n < secN bs.length from h) (by omega)
    · exact ht h
  unfold chkV
  rw [if_neg (fun h => h hroom), if_pos (beg_calm V.n (upT V.turn) bs V.s h hn hb hk)]
/-- a pair, and its disks. -/
abbrev pdI (x b1 b2 : Nat) (v1 v2 : Value) (m1 : Nat) (p1 : Option Addr) (c1 m2 : Nat) (p2 : Option Addr) (c2 : Nat) (s : DS) : Wk.Item := both (Wk.box x 55 [.pointer (some ⟨b1, 0, none⟩), .pointer (some ⟨b2, 0, none⟩), v1, v2]) (both (dkI b1 m1 p1 c1 s) (dkI b2 m2 p2 c2 s))
theorem again0_ok (x b1 b2 : Nat) (v1 v2 : Option Addr) (m1 : Nat) (p1 : Option Addr) (c1 m2 : Nat) (p2 : Option Addr) (c2 : Nat) (s : DS) (hl : s.loose.length ≤ 900000) (hnd : Nd s) (hz : 10 ≤ s.size ∧ s.size ≤ 4096) (hE : opE s = 0) (w0 : World) (hd : (pdI x b1 b2 (.pointer v1) (.pointer v2) m1 p1 c1 m2 p2 c2 s).holds w0) :
    Ret Tryz.prog 26 [.pointer (some ⟨x, 0, none⟩)] w0 (pdI x b1 b2 (.pointer v1) (.pointer v2) m1 p1 c1 m2 p2 c2 s).foot fun v w' => v = .bool true ∧ ∃ r, (prI r).holds w' ∧ (∀ k, (prI r).foot k → (pdI x b1 b2 (.pointer v1) (.pointer v2) m1 p1 c1 m2 p2 c2 s).foot k ∨ w0.heap.size ≤ k) ∧ r.x = x ∧ PrOk r (s.loose.length + 5000) := by
  refine enter Tryz.func26 rfl rfl (Wd.itLent (x := pdI x b1 b2 (.pointer v1) (.pointer v2) m1 p1 c1 m2 p2 c2 s) (fs := []) hd (by simp)) (fun a S => ?_)
  simp only [Tryz.ntmps26, List.length_cons, List.length_nil, Nat.reduceAdd, Nat.reduceSub, List.replicate_succ, List.replicate_zero, List.cons_append, List.nil_append] at S
  replace S := St.open3 S
  refine c_seq ?_
  refine c_region ?_
  refine sq S ?_; clear S; intro a S
  refine wl_nil ?_
  refine xtn ?_
  refine c_seq ?_
  refine c_region ?_
  iterate 4 (refine sq S ?_; clear S; intro a S)
  refine sit (dkI b1 m1 p1 c1 s) S (sopen_e b1 m1 p1 c1 s (by omega) _ (S.it (dkI b1 m1 p1 c1 s))) rfl ?_; clear S; rintro _ a w (⟨h, -⟩ | ⟨-, h3, g3, L3, rfl, hm3, hv3, hh3, hf3⟩) hS
  · exact absurd hE h
  have S := hS (sgI h3 b1 g3 (opD2 s).1 ((opD2 s).2 : Nat) L3) hh3 hf3
  clear hS
  iterate 5 (refine sq S ?_; clear S; intro a S)
  refine wl_nil ?_
  refine xtn ?_
  refine c_seq ?_
  refine c_region ?_
  iterate 4 (refine sq S ?_; clear S; intro a S)
  refine sit (dkI b2 m2 p2 c2 s) S (mopen_e b2 m2 p2 c2 s (by omega) _ (S.it (dkI b2 m2 p2 c2 s))) rfl ?_; clear S; rintro _ a w (⟨h, -⟩ | ⟨-, h4, g4, L4, rfl, hm4, hv4, hh4, hf4⟩) hS
  · exact absurd hE h
  have S := hS (mdI h4 b2 g4 (opD2 s).1 ((opD2 s).2 : Nat) L4) hh4 hf4
  clear hS
  iterate 5 (refine sq S ?_; clear S; intro a S)
  refine wl_nil ?_
  refine xtn ?_
  iterate 2 (refine c_seq ?_)
  refine c_region ?_
  iterate 4 (refine sq S ?_; clear S; intro a S)
  iterate 5 (refine gQ S ?_; clear S; intro a S)
  refine sq S ?_; clear S; intro a S
  refine wl_nil ?_
  refine xtn ?_
  refine c_condF S ?_
  refine c_skip ?_
  refine xtn ?_
  iterate 2 (refine c_seq ?_)
  refine c_region ?_
  iterate 2 (refine sq S ?_; clear S; intro a S)
  refine wl_nil ?_
  refine xtn ?_
  refine c_condF S ?_
  refine c_skip ?_
  refine xtn ?_
  refine c_seq ?_
  refine c_region ?_
  iterate 6 (refine sq S ?_; clear S; intro a S)
  refine sw S ?_; clear S; intro a w S
  iterate 2 (refine sq S ?_; clear S; intro a S)
  refine sw S ?_; clear S; intro a w S
  refine wl_nil ?_
  refine xtn ?_
  refine c_seq ?_
  obtain ⟨r, hr⟩ : ∃ r : PR, r = ⟨x, b1, b2, h3, h4, g3, g4, (opD2 s).1, (opD2 s).2, L3, L4⟩ := ⟨_, rfl⟩
  have hok : PrOk r (s.loose.length + 5000) := by
    have hkp := kp_open s
    rw [hr]
    have e3 : L3.s = (openF s).1 := congrArg LV.s hv3
    refine ⟨by show L3.v = L4.v; rw [hv3, hv4], by show L3.v.Wf _; rw [hv3]; exact (opnV_wf (opE_zero hE)).more (by omega), by show Nd L3.s; rw [e3]; exact hkp.1 hnd, by show 1 ≤ L3.s.size ∧ L3.s.size ≤ _; rw [e3, hkp.2]; omega, opD2_le _⟩
  have hxx : x = r.x := by rw [hr]
  replace S := S.front (mdI h4 b2 g4 (opD2 s).1 ((opD2 s).2 : Nat) L4)
  replace S := S.ofBoth
  refine c_drawD [(0, true), (1, false), (2, true), (3, true), (4, true), (5, true), (6, true), (8, true), (9, true), (10, true), (11, true), (12, true), (13, true), (14, true), (7, false), (15, false), (16, true), (17, true), (18, true)] [] S ?_; clear S; intro w S
  refine dq S ?_; clear S; intro a S
  refine dl ?_
  have S1 := S.toBoth
  have S2 := S1.front (sgI h3 b1 g3 (opD2 s).1 ((opD2 s).2 : Nat) L3)
  have S3 := S2.front (Wk.box x 55 [.pointer (some ⟨b1, 0, none⟩), .pointer (some ⟨b2, 0, none⟩), .pointer (some ⟨h3, 0, none⟩), .pointer (some ⟨h4, 0, none⟩)])
  have hh := (St.close3 S3).it (prI ⟨x, b1, b2, h3, h4, g3, g4, (opD2 s).1, (opD2 s).2, L3, L4⟩)
  rw [← hr] at hh
  have ha := sagrees_c r hok.same w hh
  rw [← hxx] at ha
  clear S1 S2 S3
  refine sr S ha ?_; clear S; rintro _ a w rfl S
  refine de S ?_
  refine dq S ?_; clear S; intro a S
  iterate 11 (refine dqG S ?_; clear S; intro a S)
  refine dl ?_
  refine gT S ?_
  refine sr S (sg_root h3 b1 g3 (opD2 s).1 ((opD2 s).2 : Nat) L3 _ (S.it (sgI h3 b1 g3 (opD2 s).1 ((opD2 s).2 : Nat) L3))) ?_; clear S; rintro _ a w rfl S
  refine de S ?_
  refine dl ?_
  refine gT S ?_
  refine sr S (mroot_c (opD2 s).1 _) ?_; clear S; rintro _ a w rfl S
  refine de S ?_
  refine dqG S ?_; clear S; intro a S
  rw [show decide ((rootD (opD2 s).1).l = (rootD (opD2 s).1).l) = true from by simp] at S
  iterate 2 (refine dq S ?_; clear S; intro a S)
  refine dn ?_
  refine xtn ?_
  refine c_ret ?_
  replace S := S.toBoth
  replace S := S.front (sgI h3 b1 g3 (opD2 s).1 ((opD2 s).2 : Nat) L3)
  replace S := S.front (Wk.box x 55 [.pointer (some ⟨b1, 0, none⟩), .pointer (some ⟨b2, 0, none⟩), .pointer (some ⟨h3, 0, none⟩), .pointer (some ⟨h4, 0, none⟩)])
  replace S := St.close3 S
  replace S := S.sub [prI ⟨x, b1, b2, h3, h4, g3, g4, (opD2 s).1, (opD2 s).2, L3, L4⟩] []
  rw [← hr] at S
  have q1 := S.it (prI r)
  have q2 := S.itNew (prI r) rfl
  exact end1 S (fun _ => ⟨rfl, r, q1, q2, hxx.symm, hok⟩)
theorem again0_bad (x b1 b2 : Nat) (v1 v2 : Option Addr) (m1 : Nat) (p1 : Option Addr) (c1 m2 : Nat) (p2 : Option Addr) (c2 : Nat) (s : DS) (hl : s.loose.length ≤ 800000) (hnd : Nd s) (hz : 10 ≤ s.size ∧ s.size ≤ 4096) (hca : Calm s) (hE : opE s ≠ 0) (w0 : World) (hd : (pdI x b1 b2 (.pointer v1) (.pointer v2) m1 p1 c1 m2 p2 c2 s).holds w0) :
    Ret Tryz.prog 26 [.pointer (some ⟨x, 0, none⟩)] w0 (pdI x b1 b2 (.pointer v1) (.pointer v2) m1 p1 c1 m2 p2 c2 s).foot fun v w' => v = .bool true ∧ ∃ r, (prI r).holds w' ∧ (∀ k, (prI r).foot k → (pdI x b1 b2 (.pointer v1) (.pointer v2) m1 p1 c1 m2 p2 c2 s).foot k ∨ w0.heap.size ≤ k) ∧ r.x = x ∧ PrOk r (s.loose.length + 5000) := by
  have hlo := openF_loose s
  have hsz := (kp_open s).2
  have hmay : mayF (openF s).1 (4 : Nat) = true := by simp [mayF]; omega
  have hco := kc_open s hca
  have hf0 := fmt_calm 4 (openF s).1 hco hmay
  have hc0 : (chkV (fmtV 4 (openF s).1) (laidD z32 0)).2 = 0 := by
    have hl := laidD_len z32 0
    refine chk_calm _ _ (kc_fmt 4 _ hco) (by show 4 ≤ 1000; omega) (by rw [hl]; show 1 ≤ 4; omega) (by omega) (by show upT 0 ≠ 0; decide) rfl ?_
    show ((2 * 4 + 2 : Nat) : Int) ≤ (fmtF 4 (openF s).1).1.size
    rw [(kp_fmt 4 _).2, hsz]; omega
  refine enter Tryz.func26 rfl rfl (Wd.itLent (x := pdI x b1 b2 (.pointer v1) (.pointer v2) m1 p1 c1 m2 p2 c2 s) (fs := []) hd (by simp)) (fun a S => ?_)
  simp only [Tryz.ntmps26, List.length_cons, List.length_nil, Nat.reduceAdd, Nat.reduceSub, List.replicate_succ, List.replicate_zero, List.cons_append, List.nil_append] at S
  replace S := St.open3 S
  refine c_seq ?_
  refine c_region ?_
  refine sq S ?_; clear S; intro a S
  refine wl_nil ?_
  refine xtn ?_
  refine c_seq ?_
  refine c_region ?_
  iterate 4 (refine sq S ?_; clear S; intro a S)
  refine sit (dkI b1 m1 p1 c1 s) S (sopen_e b1 m1 p1 c1 s (by omega) _ (S.it (dkI b1 m1 p1 c1 s))) rfl ?_; clear S; rintro _ a w (⟨-, rfl, p3, c3, hh3, hf3⟩ | ⟨h, -⟩) hS
  rotate_left 1
  · exact absurd h hE
  have S := hS (dkI b1 m1 p3 c3 (openF s).1) hh3 hf3
  clear hS
  iterate 5 (refine sq S ?_; clear S; intro a S)
  refine wl_nil ?_
  refine xtn ?_
  refine c_seq ?_
  refine c_region ?_
  iterate 4 (refine sq S ?_; clear S; intro a S)
  refine sit (dkI b2 m2 p2 c2 s) S (mopen_e b2 m2 p2 c2 s (by omega) _ (S.it (dkI b2 m2 p2 c2 s))) rfl ?_; clear S; rintro _ a w (⟨-, rfl, p4, c4, hh4, hf4⟩ | ⟨h, -⟩) hS
  rotate_left 1
  · exact absurd h hE
  have S := hS (dkI b2 m2 p4 c4 (openF s).1) hh4 hf4
  clear hS
  iterate 5 (refine sq S ?_; clear S; intro a S)
  refine wl_nil ?_
  refine xtn ?_
  iterate 2 (refine c_seq ?_)
  refine c_region ?_
  iterate 3 (refine sq S ?_; clear S; intro a S)
  rw [show (!decide (opE s = opE s)) = false from by simp] at S
  refine sq S ?_; clear S; intro a S
  iterate 5 (refine gQ S ?_; clear S; intro a S)
  refine sq S ?_; clear S; intro a S
  refine wl_nil ?_
  refine xtn ?_
  refine c_condF S ?_
  refine c_skip ?_
  refine xtn ?_
  iterate 2 (refine c_seq ?_)
  refine c_region ?_
  iterate 2 (refine sq S ?_; clear S; intro a S)
  refine wl_nil ?_
  refine xtn ?_
  refine c_condT S ?_
  iterate 2 (refine c_seq ?_)
  refine c_region ?_
  iterate 5 (refine sq S ?_; clear S; intro a S)
  rw [show (Value.agg ⟨encL (List.replicate 32 (0 : UInt8))⟩) = vDg z32 from rfl] at S
  refine sit (dkI b1 m1 p3 c3 (openF s).1) S (sformat_c b1 m1 4 p3 c3 (openF s).1 z32 _ hmay (by omega) hf0 hc0 (S.it (dkI b1 m1 p3 c3 (openF s).1))) rfl ?_; clear S; rintro _ a w ⟨h3, g3, L3, rfl, hh5, hf5, hm3, hv3⟩ hS
  have S := hS (sgI h3 b1 g3 z32 ((0 : Nat) : Int) L3) hh5 hf5
  clear hS
  iterate 5 (refine sq S ?_; clear S; intro a S)
  refine wl_nil ?_
  refine xtn ?_
  refine c_seq ?_
  refine c_region ?_
  iterate 2 (refine sq S ?_; clear S; intro a S)
  refine wl_nil ?_
  refine xtn ?_
  refine c_condF S ?_
  refine c_skip ?_
  refine xtn ?_
  refine c_seq ?_
  refine c_region ?_
  iterate 5 (refine sq S ?_; clear S; intro a S)
  rw [show (Value.agg ⟨encL (List.replicate 32 (0 : UInt8))⟩) = vDg z32 from rfl] at S
  refine sit (dkI b2 m2 p4 c4 (openF s).1) S (mformat_c b2 m2 4 p4 c4 (openF s).1 z32 _ hmay (by omega) hf0 hc0 (S.it (dkI b2 m2 p4 c4 (openF s).1))) rfl ?_; clear S; rintro _ a w ⟨h4, g4, L4, rfl, hh6, hf6, hm4, hv4⟩ hS
  have S := hS (mdI h4 b2 g4 z32 ((0 : Nat) : Int) L4) hh6 hf6
  clear hS
  iterate 5 (refine sq S ?_; clear S; intro a S)
  refine wl_nil ?_
  refine xtn ?_
  refine c_seq ?_
  refine c_region ?_
  iterate 2 (refine sq S ?_; clear S; intro a S)
  refine wl_nil ?_
  refine xtn ?_
  refine c_condF S ?_
  refine c_skip ?_
  refine xtn ?_
  refine c_seq ?_
  refine c_region ?_
  iterate 6 (refine sq S ?_; clear S; intro a S)
  refine sw S ?_; clear S; intro a w S
  iterate 2 (refine sq S ?_; clear S; intro a S)
  refine sw S ?_; clear S; intro a w S
  refine wl_nil ?_
  refine xtn ?_
  refine c_seq ?_
  obtain ⟨r, hr⟩ : ∃ r : PR, r = ⟨x, b1, b2, h3, h4, g3, g4, z32, 0, L3, L4⟩ := ⟨_, rfl⟩
  have hok : PrOk r (s.loose.length + 5000) := by
    rw [hr]
    have e3 : L3.s = (chkV (fmtV 4 (openF s).1) (laidD z32 0)).1.s := congrArg LV.s hv3
    have hkp : Kp s L3.s := by rw [e3]; exact (kp_open s).trans ((kp_fmt 4 _).trans (kp_chk (fmtV 4 (openF s).1) _))
    refine ⟨by show L3.v = L4.v; rw [hv3, hv4], by show L3.v.Wf _; rw [hv3]; exact (chkV_wf (fmtV_wf hmay) _).more (by omega), hkp.1 hnd, by show 1 ≤ L3.s.size ∧ L3.s.size ≤ _; rw [hkp.2]; omega, Nat.zero_le _⟩
  have hxx : x = r.x := by rw [hr]
  replace S := S.front (mdI h4 b2 g4 z32 ((0 : Nat) : Int) L4)
  replace S := S.ofBoth
  refine c_drawD [(0, true), (1, false), (2, true), (3, true), (4, true), (5, true), (6, true), (8, true), (9, true), (10, true), (11, true), (12, true), (13, true), (14, true), (7, false), (15, false), (16, true), (17, true), (18, true)] [] S ?_; clear S; intro w S
  refine dq S ?_; clear S; intro a S
  refine dl ?_
  have S1 := S.toBoth
  have S2 := S1.front (sgI h3 b1 g3 z32 ((0 : Nat) : Int) L3)
  have S3 := S2.front (Wk.box x 55 [.pointer (some ⟨b1, 0, none⟩), .pointer (some ⟨b2, 0, none⟩), .pointer (some ⟨h3, 0, none⟩), .pointer (some ⟨h4, 0, none⟩)])
  have hh := (St.close3 S3).it (prI ⟨x, b1, b2, h3, h4, g3, g4, z32, 0, L3, L4⟩)
  rw [← hr] at hh
  have ha := sagrees_c r hok.same w hh
  rw [← hxx] at ha
  clear S1 S2 S3
  refine sr S ha ?_; clear S; rintro _ a w rfl S
  refine de S ?_
  refine dq S ?_; clear S; intro a S
  iterate 11 (refine dqG S ?_; clear S; intro a S)
  refine dl ?_
  refine gT S ?_
  refine sr S (sg_root h3 b1 g3 z32 ((0 : Nat) : Int) L3 _ (S.it (sgI h3 b1 g3 z32 ((0 : Nat) : Int) L3))) ?_; clear S; rintro _ a w rfl S
  refine de S ?_
  refine dl ?_
  refine gT S ?_
  refine sr S (mroot_c z32 _) ?_; clear S; rintro _ a w rfl S
  refine de S ?_
  refine dqG S ?_; clear S; intro a S
  rw [show decide ((rootD z32).l = (rootD z32).l) = true from by simp] at S
  iterate 2 (refine dq S ?_; clear S; intro a S)
  refine dn ?_
  refine xtn ?_
  refine c_ret ?_
  replace S := S.toBoth
  replace S := S.front (sgI h3 b1 g3 z32 ((0 : Nat) : Int) L3)
  replace S := S.front (Wk.box x 55 [.pointer (some ⟨b1, 0, none⟩), .pointer (some ⟨b2, 0, none⟩), .pointer (some ⟨h3, 0, none⟩), .pointer (some ⟨h4, 0, none⟩)])
  replace S := St.close3 S
  replace S := S.sub [prI ⟨x, b1, b2, h3, h4, g3, g4, z32, 0, L3, L4⟩] []
  rw [← hr] at S
  have q1 := S.it (prI r)
  have q2 := S.itNew (prI r) rfl
  exact end1 S (fun _ => ⟨rfl, r, q1, q2, hxx.symm, hok⟩)
theorem again0_c (x b1 b2 : Nat) (v1 v2 : Option Addr) (m1 : Nat) (p1 : Option Addr) (c1 m2 : Nat) (p2 : Option Addr) (c2 : Nat) (s : DS) (hl : s.loose.length ≤ 800000) (hnd : Nd s) (hz : 10 ≤ s.size ∧ s.size ≤ 4096) (hca : Calm s) (w0 : World) (hd : (pdI x b1 b2 (.pointer v1) (.pointer v2) m1 p1 c1 m2 p2 c2 s).holds w0) :
    Ret Tryz.prog 26 [.pointer (some ⟨x, 0, none⟩)] w0 (pdI x b1 b2 (.pointer v1) (.pointer v2) m1 p1 c1 m2 p2 c2 s).foot fun v w' => v = .bool true ∧ ∃ r, (prI r).holds w' ∧ (∀ k, (prI r).foot k → (pdI x b1 b2 (.pointer v1) (.pointer v2) m1 p1 c1 m2 p2 c2 s).foot k ∨ w0.heap.size ≤ k) ∧ r.x = x ∧ PrOk r (s.loose.length + 5000) := by
  by_cases hE : opE s = 0
  · exact again0_ok x b1 b2 v1 v2 m1 p1 c1 m2 p2 c2 s (by omega) hnd hz hE w0 hd
  · exact again0_bad x b1 b2 v1 v2 m1 p1 c1 m2 p2 c2 s hl hnd hz hca hE w0 hd
end Go.Proofs.YtlphkccfcodmcaaGreat

/- The laws of layer 10: which signer a log has. -/
namespace Go.Proofs.YtlphkccfcodmcaaGreat
open Go Go.Wk
set_option synthInstance.maxSize 100000
set_option synthInstance.maxHeartbeats 400000
set_option maxRecDepth 100000

instance opIdx2P {P : Program} {ty t e : TypeId} {l : Cx} {bs : List Wk.Item} {fs : List (World → Prop)} {x y : Operand} {kk : IntKind} {i b1 b2 : Nat} {z : Value} {by_ : Nat} [hx : Ev l x (.agg ⟨[.pointer (some ⟨b1, 0, none⟩), .pointer (some ⟨b2, 0, none⟩)]⟩)] [hy : Ev l y (.int kk (i : Int))] [ht : Und P t (.array 2 e)] [hti : TI P e z 1 by_] [ha : AggT P e false] [hk : KLt i 2] : OpQ P (.index t x y) ty l bs fs (.pointer (some ⟨if i = 0 then b1 else b2, 0, none⟩)) := ⟨fun ρ w h _ =>
  run_idx [.pointer (some ⟨b1, 0, none⟩), .pointer (some ⟨b2, 0, none⟩)] i _ (by have := hk.lt; rcases (show i = 0 ∨ i = 1 by omega) with rfl | rfl <;> rfl) rfl h w⟩
def cutN (n : Nat) (l : List UInt8) : List UInt8 := l.take (min l.length n)
theorem cutN_len (n : Nat) (l : List UInt8) : (cutN n l).length = min l.length n := by rw [cutN, List.length_take]; omega
/-- rows are taken down, up to the first that is refused. -/
def rwsV (V : LV) : List (List UInt8) → LV
  | [] => V
  | b :: bs => if (appV V b).2 = 0 then rwsV (appV V b).1 bs else (appV V b).1
theorem kp_rows : ∀ (bs : List (List UInt8)) (V : LV), Kp V.s (rwsV V bs).s
  | [], V => Kp.refl _
  | b :: bs, V => by
    rw [rwsV]
    split
    · exact (kp_app V b).trans (kp_rows bs _)
    · exact kp_app V b
theorem kc_rows : ∀ (bs : List (List UInt8)) (V : LV), Kc V.s (rwsV V bs).s
  | [], V => Kc.refl _
  | b :: bs, V => by
    rw [rwsV]
    split
    · exact (kc_app V b).trans (kc_rows bs _)
    · exact kc_app V b
theorem rows_wf : ∀ (bs : List (List UInt8)) (V : LV) (k : Nat), V.Wf k → (rwsV V bs).Wf (k + 840 * bs.length)
  | [], V, k, h => h
  | b :: bs, V, k, h => by
    rw [rwsV, List.length_cons]
    split
    · exact (rows_wf bs _ _ (appV_wf h b)).more (by omega)
    · exact (appV_wf h b).more (by omega)
set_option maxHeartbeats 3200000 in
theorem sopens_c (ps : Option Addr) (cs : Nat) (sq0 : List UInt8) (hcs : sq0.length ≤ cs) (pr : Option Addr) (cr : Nat) (rows : List (Sl UInt8)) (hrl : rows.length ≤ maxLen) (pl : Option Addr) (cl : Nat) (l : List LSop) (hcl : l.length ≤ cl) (hz : ∀ x ∈ l, x.keep.length ≤ 140737488355328) (w0 : World) (f0 : Stable (fun _ => False) w0 (GlF ps sq0)) (f1 : Stable (fun _ => False) w0 (GlF pr rows)) (f2 : Stable (fun _ => False) w0 (GlF pl l)) :
    Ret Tryz.prog 5 [.slice ps sq0.length cs, .slice pr rows.length cr, .slice pl l.length cl] w0 (fun _ => False) fun v _ => v = .bool true := by
  have hrl2 : rows.length ≤ 9223372036854775807 := hrl
  have hn9 : sAreaN 5 = 9 := by decide +kernel
  obtain ⟨hc, hok, hoff, hlv⟩ := fmt_sg 9 (by omega) (d1 1)
  have hle : LeC (min sq0.length 40) cs := ⟨by omega⟩
  have hN : LenN (cutN 40 sq0) (min sq0.length 40) := ⟨cutN_len 40 sq0⟩
  obtain ⟨rs, hrs⟩ : ∃ rs, rs = (rows.take 7).map fun x => cutN 3 x.xs := ⟨_, rfl⟩
  have hrsl : rs.length = min rows.length 7 := by rw [hrs, List.length_map, List.length_take]; omega
  refine enter Tryz.func5 rfl rfl (Wd.begin (fs := [GlF ps sq0, GlF pr rows, GlF pl l]) (by simp; exact ⟨f0, f1, f2⟩)) (fun a S => ?_)
  simp only [Tryz.ntmps5, List.length_cons, List.length_nil, Nat.reduceAdd, Nat.reduceSub, List.replicate_succ, List.replicate_zero, List.cons_append, List.nil_append] at S
  refine c_seq ?_
  refine c_region ?_
  refine sq S ?_; clear S; intro a S
  refine wl_nil ?_
  refine xtn ?_
  iterate 2 (refine c_seq ?_)
  refine c_region ?_
  refine sr S (swakes_c _) ?_; clear S; rintro _ a w rfl S
  refine sq S ?_; clear S; intro a S
  refine wl_nil ?_
  refine xtn ?_
  refine c_condF S ?_
  refine c_skip ?_
  refine xtn ?_
  refine c_seq ?_
  refine c_region ?_
  refine sq S ?_; clear S; intro a S
  rw [show (Value.agg ⟨.int .u8 1 :: encL (List.replicate 31 (0 : UInt8))⟩) = vDg (d1 1) from rfl] at S
  refine snew S (begun_c 5 (d1 1) _) ?_; clear S; rintro _ a w - ⟨r0, rfl, hh, hnw, hok0, hsd, hnx, hV0⟩ hS -
  have S := hS (prI r0) hh hnw
  clear hS
  rw [hn9] at hV0
  obtain ⟨x, b1, b2, i1, i2, g1, g2, seed, next, L1, L2⟩ := r0
  simp only at hsd hnx hV0
  have hss : L2.s = L1.s := (congrArg LV.s hok0.same).symm
  obtain ⟨m1, hm1⟩ : ∃ m1, m1 = L1.m := ⟨_, rfl⟩
  obtain ⟨m2, hm2⟩ : ∃ m2, m2 = L2.m := ⟨_, rfl⟩
  obtain ⟨s0, hs0⟩ : ∃ s0, s0 = L1.s := ⟨_, rfl⟩
  have hnd0 : Nd s0 := hs0 ▸ hok0.nd
  have hlv0 : Live s0 9 1 [laidD (d1 1) 0] := by rw [hs0, show L1.s = L1.v.s from rfl, hV0]; exact hlv
  have hoff0 : s0.arms.on = false := by rw [hs0, show L1.s = L1.v.s from rfl, hV0]; exact hoff
  have hsz0 : s0.size = 20 := by
    rw [hs0, show L1.s = L1.v.s from rfl, hV0]
    have h1 := (kp_fmt 9 (newD ((2 * 9 + 2 : Nat) : Int))).2
    have h2 := (kp_chk (fmtV 9 (newD ((2 * 9 + 2 : Nat) : Int))) (laidD (d1 1) 0)).2
    exact h2.trans (h1.trans rfl)
  have hca0 : Calm s0 := by
    obtain ⟨tail, hL, -⟩ := id hlv0
    exact ⟨hL.up.on, hL.up.fit, hoff0⟩
  have hlo0 : s0.loose = [] := by obtain ⟨tail, hL, -⟩ := id hlv0; exact hL.loose
  obtain ⟨o1, o2, o3, o4⟩ := (open_able hlv0.able).resolve_right (fun h => by rw [hoff0] at h; cases h.1)
  obtain ⟨VC, hVC⟩ : ∃ VC, VC = (chkV (opnV s0) (cutN 40 sq0)).1 := ⟨_, rfl⟩
  have hwo : (opnV s0).Wf 1000 := (opnV_wf o1).more (by rw [hlo0]; simp)
  have hck : (chkV (opnV s0) (cutN 40 sq0)).2 = 0 := by
    have e : opnV s0 = ⟨(openF s0).1, 9, 1, [laidD (d1 1) 0], endF 1 [laidD (d1 1) 0], false⟩ := by rw [opnV, o3]
    have hcl40 : (cutN 40 sq0).length ≤ 40 := by rw [cutN_len]; omega
    have hse : secN (cutN 40 sq0).length ≤ 1 := by
      unfold secN; split
      · exact Nat.le_refl _
      · omega
    rw [e]
    refine chk_calm _ _ (kc_open s0 hca0) (by show 9 ≤ 1000; omega) (by show _ ≤ 9; omega) (by omega) (by show upT 1 ≠ 0; decide) rfl ?_
    show ((2 * 9 + 2 : Nat) : Int) ≤ (openF s0).1.size
    rw [(kp_open s0).2, hsz0]; decide
  have hwc : VC.Wf 1840 := hVC ▸ (chkV_wf hwo _)
  obtain ⟨sF, hsF⟩ : ∃ sF, sF = (rwsV VC rs).s := ⟨_, rfl⟩
  have hkF : Kp s0 sF := by rw [hsF, hVC]; exact (kp_open s0).trans ((kp_chk (opnV s0) _).trans (kp_rows rs _))
  have hcF : Calm sF := by rw [hsF]; exact kc_rows rs VC (by rw [hVC]; exact kc_chk (opnV s0) _ (kc_open s0 hca0))
  have hlF : sF.loose.length ≤ 10000 := by have := (rows_wf rs VC 1840 hwc).loose; rw [hsF]; omega
  refine sq S ?_; clear S; intro a S
  refine wl_nil ?_
  refine xtn ?_
  iterate 2 (refine c_seq ?_)
  refine c_region ?_
  iterate 2 (refine sq S ?_; clear S; intro a S)
  refine wl_nil ?_
  refine xtn ?_
  refine c_condF S ?_
  refine c_skip ?_
  refine xtn ?_
  iterate 2 (refine c_seq ?_)
  replace S := St.open3 S
  replace S := S.front (sgI i1 b1 g1 seed (next : Nat) L1)
  replace S := S.ofBoth
  replace S := S.front (lgI b1 g1 L1)
  replace S := S.ofBoth
  replace S := S.front (mdI i2 b2 g2 seed (next : Nat) L2)
  replace S := S.ofBoth
  replace S := S.front (lgI b2 g2 L2)
  replace S := S.ofBoth
  rw [hss, ← hm1, ← hm2, ← hs0] at S
  refine c_drawD [(0, true), (1, true), (2, true), (3, true), (4, true), (5, true), (6, true), (7, true), (8, true), (9, true)] [] S ?_; clear S; intro w S
  iterate 10 (refine dq S ?_; clear S; intro a S)
  refine dn ?_
  refine xtn ?_
  refine c_block ?_
  refine c_fore5 S (fun (i : Nat) (p1 : Option Addr) (c1 : Nat) (p2 : Option Addr) (c2 : Nat) uu => [(6, uu 6), (2, uu 9), (0, uu 10), (0, uu 11), (0, uu 12), (0, uu 13), (17, .int .i64 (i : Nat)), (0, uu 32), (0, uu 33), (0, uu 34), (0, uu 35), (0, uu 36), (0, uu 37), (0, uu 38), (0, uu 39), (0, uu 40), (0, uu 41), (0, uu 42), (0, uu 43), (0, uu 44), (0, uu 45), (0, uu 46), (0, uu 47), (0, uu 48), (0, uu 49), (0, uu 50), (0, uu 51), (0, uu 52), (0, uu 53), (0, uu 54), (0, uu 55), (0, uu 56), (0, uu 57), (0, uu 58), (0, uu 59), (0, uu 60), (0, uu 61), (0, uu 62), (0, uu 63), (0, uu 64), (0, uu 65), (0, uu 66), (0, uu 67), (0, uu 68), (0, uu 69), (0, uu 70), (0, uu 71), (0, uu 72), (0, uu 73), (0, uu 74), (0, uu 75)]) (fun (i : Nat) (p1 : Option Addr) (c1 : Nat) (p2 : Option Addr) (c2 : Nat) => [dkI b1 m1 p1 c1 (if 1 ≤ i then sF else s0), dkI b2 m2 p2 c2 (if 2 ≤ i then sF else s0), Wk.box x 55 (cPR ⟨x, b1, b2, i1, i2, g1, g2, seed, next, L1, L2⟩)]) (fun (i : Nat) (p1 : Option Addr) (c1 : Nat) (p2 : Option Addr) (c2 : Nat) => [GlF ps sq0, GlF pr rows, GlF pl l]) (fun (i : Nat) (p1 : Option Addr) (c1 : Nat) (p2 : Option Addr) (c2 : Nat) => i ≤ 2) (fun (i : Nat) (p1 : Option Addr) (c1 : Nat) (p2 : Option Addr) (c2 : Nat) => 2 - i) (0) (L1.p) (L1.c) (L2.p) (L2.c) ?_ S.uu ?_ ?_
  · omega
  · replace S := S.front (dkI b2 m2 L2.p L2.c s0)
    replace S := S.front (dkI b1 m1 L1.p L1.c s0)
    exact S.sub [dkI b1 m1 L1.p L1.c s0, dkI b2 m2 L2.p L2.c s0, Wk.box x 55 (cPR ⟨x, b1, b2, i1, i2, g1, g2, seed, next, L1, L2⟩)] [GlF ps sq0, GlF pr rows, GlF pl l]
  · clear S; rintro i p1 c1 p2 c2 uu a w hi S
    refine c_seq ?_
    refine c_region ?_
    refine sq S ?_; clear S; intro a S
    refine wl_nil ?_
    refine xtn ?_
    refine c_seq ?_
    refine c_cond S (fun h7 => ?_) (fun h7 => ?_)
    · refine c_skip ?_
      refine xtn ?_
      refine c_seq ?_
      refine c_block ?_
      refine c_seq ?_
      have hi2 : i < 2 := by have := of_decide_eq_true h7; omega
      have hK2 : KLt i 2 := ⟨hi2⟩
      obtain ⟨b, m, p, c, bO, mO, pO, cO, sO, hperm, hb, hcase⟩ : ∃ (b m : Nat) (p : Option Addr) (c bO mO : Nat) (pO : Option Addr) (cO : Nat) (sO : DS),
          [dkI b1 m1 p1 c1 (if 1 ≤ i then sF else s0), dkI b2 m2 p2 c2 (if 2 ≤ i then sF else s0), Wk.box x 55 (cPR ⟨x, b1, b2, i1, i2, g1, g2, seed, next, L1, L2⟩)].Perm [dkI b m p c s0, dkI bO mO pO cO sO, Wk.box x 55 (cPR ⟨x, b1, b2, i1, i2, g1, g2, seed, next, L1, L2⟩)] ∧
          (if i = 0 then b1 else b2) = b ∧
          (∀ p' c', ∃ p3 c3 p4 c4, [dkI b m p' c' sF, dkI bO mO pO cO sO, Wk.box x 55 (cPR ⟨x, b1, b2, i1, i2, g1, g2, seed, next, L1, L2⟩)].Perm [dkI b1 m1 p3 c3 (if 1 ≤ i + 1 then sF else s0), dkI b2 m2 p4 c4 (if 2 ≤ i + 1 then sF else s0), Wk.box x 55 (cPR ⟨x, b1, b2, i1, i2, g1, g2, seed, next, L1, L2⟩)]) := by
        rcases (show i = 0 ∨ i = 1 by omega) with rfl | rfl
        · exact ⟨b1, m1, p1, c1, b2, m2, p2, c2, s0, .refl _, rfl, fun p' c' => ⟨p', c', p2, c2, .refl _⟩⟩
        · exact ⟨b2, m2, p2, c2, b1, m1, p1, c1, sF, .swap _ _ _, rfl, fun p' c' => ⟨p1, c1, p', c', .swap _ _ _⟩⟩
      replace S := S.perm _ hperm.symm
      refine c_region ?_
      refine sq S ?_; clear S; intro a S
      rw [hb] at S
      refine sq S ?_; clear S; intro a S
      refine wl_nil ?_
      refine xtn ?_
      refine c_seq ?_
      refine c_region ?_
      refine sq S ?_; clear S; intro a S
      refine sit (dkI b m p c s0) S (openV_c b m p c s0 (by rw [hlo0]; simp) _ (S.it (dkI b m p c s0))) rfl ?_; clear S; rintro _ a w (⟨h, -⟩ | ⟨-, g, L, rfl, hLm, hLv, hh2, hf2⟩) hS
      · exact absurd o1 h
      have S := hS (lgI b g L) hh2 hf2
      clear hS
      iterate 5 (refine sq S ?_; clear S; intro a S)
      refine wl_nil ?_
      refine xtn ?_
      iterate 2 (refine c_seq ?_)
      refine c_region ?_
      iterate 2 (refine sq S ?_; clear S; intro a S)
      rw [show (!decide ((0 : Int) = 0)) = false from rfl] at S
      refine sq S ?_; clear S; intro a S
      refine gT' S ?_
      refine sq S ?_; clear S; intro a S
      refine gT' S ?_
      refine sn S ?_; clear S; intro b43 a w S
      replace S := S.boxRow b43 1 0 rfl (by decide)
      replace S := S.add (Φ := GlF ps (cutN 40 sq0)) ((S.mem.fact (GlF ps sq0)).imp fun _ h => h.take _)
      refine gT' S ?_
      refine sq S ?_; clear S; intro a S
      refine gT' S ?_
      refine sq S ?_; clear S; intro a S
      refine gT' S ?_
      refine sq S ?_; clear S; intro a S
      refine gT' S ?_
      refine sq S ?_; clear S; intro a S
      refine gT' S ?_
      refine sq S ?_; clear S; intro a S
      refine gT' S ?_
      refine sap S (by simp only [maxLen]; omega) (by omega) ?_; clear S; rintro p10 c10 a w - S
      rw [List.nil_append, Nat.zero_add, ← hN.eq] at S
      replace S := S.rowToGl p10 (cutN 40 sq0) (e := 5) (sz := 1) (n := (cutN 40 sq0).length) (c := c10) (fun _ _ _ _ => trivial)
      refine gT' S ?_
      have hr := chk_v b g L 1000 ⟨p10, c10, cutN 40 sq0⟩ (hLv ▸ hwo) (by omega) (by show (cutN 40 sq0).length ≤ _; rw [cutN_len]; omega) w (S.it (lgI b g L)) (S.lend (lgI b g L) (S.mem.fact (GlF p10 (cutN 40 sq0))))
      rw [hLv] at hr
      refine sit (lgI b g L) S hr rfl ?_; clear S; rintro _ a w ⟨L3, rfl, hh3, hf3, hm3, hv3⟩ hS
      have S := hS (lgI b g L3) hh3 hf3
      clear hS
      rw [show (chkV (opnV s0) (LBy.bs ⟨p10, c10, cutN 40 sq0⟩)).2 = 0 from hck] at S
      replace hv3 : L3.v = VC := by rw [hVC]; exact hv3
      have hm3 : L3.m = m := hm3.trans hLm
      refine gT' S ?_
      refine sq S ?_; clear S; intro a S
      rw [show (!decide ((0 : Int) = 0)) = false from rfl] at S
      refine sq S ?_; clear S; intro a S
      refine wl_nil ?_
      refine xtn ?_
      refine c_condF S ?_
      refine c_skip ?_
      refine xtn ?_
      refine c_seq ?_
      refine c_region ?_
      iterate 3 (refine sq S ?_; clear S; intro a S)
      refine wl_nil ?_
      refine xtn ?_
      refine c_block ?_
      refine c_fore2 S (fun (j : Nat) (L4 : LG) uu => [(12, uu 12), (0, uu 13), (41, .int .i64 (j : Nat)), (0, uu 56), (0, uu 57), (0, uu 58), (0, uu 59), (0, uu 60), (0, uu 61), (0, uu 62), (0, uu 63), (0, uu 64), (0, uu 65), (0, uu 66), (0, uu 67), (0, uu 68), (0, uu 69), (0, uu 70), (0, uu 71), (0, uu 72), (0, uu 73), (0, uu 74)]) (fun (j : Nat) (L4 : LG) => [lgI b g L4, dkI bO mO pO cO sO, Wk.box x 55 (cPR ⟨x, b1, b2, i1, i2, g1, g2, seed, next, L1, L2⟩)]) (fun (j : Nat) (L4 : LG) => [GlF ps sq0, GlF pr rows, GlF pl l]) (fun (j : Nat) (L4 : LG) => j ≤ rows.length ∧ rwsV VC rs = rwsV L4.v (rs.drop j) ∧ L4.m = m ∧ L4.v.Wf (1840 + 840 * min j 7)) (fun (j : Nat) (L4 : LG) => rows.length - j) (0) (L3) ?_ S.uu ?_ ?_
      · exact ⟨Nat.zero_le _, by rw [hv3]; rfl, hm3, by rw [hv3]; exact hwc⟩
      · first | exact S | exact S.sub _ _
      · clear S; rintro j L4 uu a w ⟨hj, hrv, hm4, hwf4⟩ S
        refine c_seq ?_
        refine c_region ?_
        refine sq S ?_; clear S; intro a S
        refine wl_nil ?_
        refine xtn ?_
        refine c_seq ?_
        refine c_cond S (fun h13 => ?_) (fun h13 => ?_)
        · refine c_skip ?_
          refine xtn ?_
          refine c_seq ?_
          refine c_block ?_
          refine c_seq ?_
          have hjl : j < rows.length := by have := of_decide_eq_true h13; omega
          have hK : KLt j rows.length := ⟨hjl⟩
          obtain ⟨y, hy⟩ : ∃ y, y = nthG rows j := ⟨_, rfl⟩
          have hym : y ∈ rows := hy ▸ nthG_mem hjl
          refine c_region ?_
          iterate 3 (refine sq S ?_; clear S; intro a S)
          trace_state
          rw [← hy] at S
          iterate 2 (refine sq S ?_; clear S; intro a S)
          refine wl_nil ?_
          refine xtn ?_
          refine c_seq ?_
          obtain ⟨hyc, hyc2, -⟩ := (S.mem.fact (GlF pr rows)).now.2 y hym
          have hle3 : LeC (min y.xs.length 3) y.cap := ⟨by omega⟩
          have hN3 : LenN (cutN 3 y.xs) (min y.xs.length 3) := ⟨cutN_len 3 y.xs⟩
          refine c_region ?_
          iterate 3 (refine sq S ?_; clear S; intro a S)
          refine gS S (fun hj7 S => ?_) (fun hj7 S => ?_)
          · refine gT S ?_
            refine sq S ?_; clear S; intro a S
            refine gT S ?_
            refine sn S ?_; clear S; intro b64 a w S
            replace S := S.boxRow b64 1 0 rfl (by decide)
            replace S := S.add (Φ := GlF y.p (cutN 3 y.xs)) ((S.mem.fact (GlF pr rows)).imp fun _ h => (h.2 y hym).2.2.take _)
            refine gT S ?_
            refine sq S ?_; clear S; intro a S
            refine gT S ?_
            refine sq S ?_; clear S; intro a S
            refine gT S ?_
            refine sq S ?_; clear S; intro a S
            refine gT S ?_
            refine sq S ?_; clear S; intro a S
            refine gT S ?_
            refine sq S ?_; clear S; intro a S
            refine gT S ?_
            refine sap S (by simp only [maxLen]; omega) (by omega) ?_; clear S; rintro p15 c15 a w - S
            rw [List.nil_append, Nat.zero_add, ← hN3.eq] at S
            replace S := S.rowToGl p15 (cutN 3 y.xs) (e := 5) (sz := 1) (n := (cutN 3 y.xs).length) (c := c15) (fun _ _ _ _ => trivial)
            refine gT S ?_
            have hr := append_v b g L4 (1840 + 840 * min j 7) ⟨p15, c15, cutN 3 y.xs⟩ hwf4 (by omega) (by show (cutN 3 y.xs).length ≤ _; rw [cutN_len]; omega) w (S.it (lgI b g L4)) (S.lend (lgI b g L4) (S.mem.fact (GlF p15 (cutN 3 y.xs))))
            refine sit (lgI b g L4) S hr rfl ?_; clear S hr; rintro _ a w ⟨L5, rfl, hh5, hf5, hm5, hv5⟩ hS
            have S := hS (lgI b g L5) hh5 hf5
            clear hS
            rw [show (LBy.bs ⟨p15, c15, cutN 3 y.xs⟩) = cutN 3 y.xs from rfl] at S hv5
            have hj7' : j < 7 := by have : (j : Int) < 7 := by simpa using hj7
                                    omega
            have hg : rs[j]? = some (cutN 3 y.xs) := by
              rw [hrs, List.getElem?_map, List.getElem?_take, if_pos hj7', nthG_get hjl, hy]; rfl
            have hjr := (List.getElem?_eq_some_iff.1 hg).1
            have hdr : rs.drop j = cutN 3 y.xs :: rs.drop (j + 1) := by rw [List.drop_eq_getElem_cons hjr, (List.getElem?_eq_some_iff.1 hg).2]
            rw [hdr, rwsV] at hrv
            refine gT S ?_
            iterate 2 (refine sq S ?_; clear S; intro a S)
            refine wl_nil ?_
            refine xtn ?_
            refine c_cond S (fun h15 => ?_) (fun h15 => ?_)
            · refine c_exit ?_
              refine xbx ?_
              iterate 2 (refine xte ?_)
              refine xbe ?_
              refine xbn ?_
              refine xtn ?_
              refine c_region ?_
              iterate 2 (refine sq S ?_; clear S; intro a S)
              refine wl_nil ?_
              refine xtn ?_
              have he : (appV L4.v (cutN 3 y.xs)).2 ≠ 0 := by simpa using h15
              rw [if_neg he, ← hv5] at hrv
              have hs5 : L5.s = sF := by rw [hsF, hrv]; rfl
              have hm5' : L5.m = m := hm5.trans hm4
              rw [w64 ((i : Int) + 1) (by omega) (by omega)] at S
              replace S := S.front (lgI b g L5)
              replace S := S.ofBoth
              rw [hs5, hm5'] at S
              obtain ⟨p3, c3, p4, c4, hp⟩ := hcase L5.p L5.c
              replace S := S.sub [dkI b m L5.p L5.c sF, dkI bO mO pO cO sO, Wk.box x 55 (cPR ⟨x, b1, b2, i1, i2, g1, g2, seed, next, L1, L2⟩)] [GlF ps sq0, GlF pr rows, GlF pl l]
              replace S := S.perm _ hp.symm
              exact ⟨i + 1, p3, c3, p4, c4, S.uu, by omega, S, by omega⟩
            · refine c_skip ?_
              refine xbn ?_
              refine xtn ?_
              refine c_region ?_
              iterate 2 (refine sq S ?_; clear S; intro a S)
              refine wl_nil ?_
              refine xtn ?_
              have he : (appV L4.v (cutN 3 y.xs)).2 = 0 := by simpa using h15
              rw [if_pos he, ← hv5] at hrv
              rw [w64 ((j : Int) + 1) (by omega) (by omega)] at S
              exact ⟨j + 1, L5, S.uu, ⟨hjl, hrv, hm5.trans hm4, by rw [hv5]; exact (appV_wf hwf4 _).more (by omega)⟩, (S.front (lgI b g L5)).sub _ _, by omega⟩
          · refine gF S ?_; clear S; intro a S
            iterate 9 (refine gF S ?_; clear S; intro a S)
            refine sq S ?_; clear S; intro a S
            refine wl_nil ?_
            refine xtn ?_
            refine c_condF S ?_
            refine c_skip ?_
            refine xbn ?_
            refine xtn ?_
            refine c_region ?_
            iterate 2 (refine sq S ?_; clear S; intro a S)
            refine wl_nil ?_
            refine xtn ?_
            have hj7' : ¬ j < 7 := by have : ¬ (j : Int) < 7 := by simpa using hj7
                                      omega
            rw [List.drop_of_length_le (by omega)] at hrv
            rw [w64 ((j : Int) + 1) (by omega) (by omega)] at S
            exact ⟨j + 1, L4, S.uu, ⟨hjl, by rw [hrv, List.drop_of_length_le (by omega)], hm4, hwf4.more (by omega)⟩, (S.front (lgI b g L4)).sub _ _, by omega⟩
        · refine c_exit ?_
          iterate 2 (refine xte ?_)
          refine xbe ?_
          refine xbn ?_
          refine xtn ?_
          refine c_region ?_
          iterate 2 (refine sq S ?_; clear S; intro a S)
          refine wl_nil ?_
          refine xtn ?_
          have hje : j = rows.length := by have := of_decide_eq_false h13; omega
          rw [List.drop_of_length_le (by omega), rwsV] at hrv
          have hs5 : L4.s = sF := by rw [hsF, hrv]; rfl
          rw [w64 ((i : Int) + 1) (by omega) (by omega)] at S
          replace S := S.front (lgI b g L4)
          replace S := S.ofBoth
          rw [hs5, hm4] at S
          obtain ⟨p3, c3, p4, c4, hp⟩ := hcase L4.p L4.c
          replace S := S.sub [dkI b m L4.p L4.c sF, dkI bO mO pO cO sO, Wk.box x 55 (cPR ⟨x, b1, b2, i1, i2, g1, g2, seed, next, L1, L2⟩)] [GlF ps sq0, GlF pr rows, GlF pl l]
          replace S := S.perm _ hp.symm
          exact ⟨i + 1, p3, c3, p4, c4, S.uu, by omega, S, by omega⟩
    · refine c_exit ?_
      iterate 2 (refine xte ?_)
      refine xbe ?_
      refine xtn ?_
      iterate 2 (refine c_seq ?_)
      obtain rfl : i = 2 := by have := of_decide_eq_false h7; omega
      rw [if_pos (by decide : 1 ≤ 2), if_pos (by decide : 2 ≤ 2)] at S
      replace S := S.front (dkI b2 m2 p2 c2 sF)
      replace S := S.front (dkI b1 m1 p1 c1 sF)
      replace S := S.front (Wk.box x 55 (cPR ⟨x, b1, b2, i1, i2, g1, g2, seed, next, L1, L2⟩))
      replace S := St.close3 S
      replace S := S.sub [pdI x b1 b2 (.pointer (some ⟨i1, 0, none⟩)) (.pointer (some ⟨i2, 0, none⟩)) m1 p1 c1 m2 p2 c2 sF] [GlF ps sq0, GlF pr rows, GlF pl l]
      refine c_region ?_
      refine sq S ?_; clear S; intro a S
      refine sit (pdI x b1 b2 (.pointer (some ⟨i1, 0, none⟩)) (.pointer (some ⟨i2, 0, none⟩)) m1 p1 c1 m2 p2 c2 sF) S (again0_c x b1 b2 (some ⟨i1, 0, none⟩) (some ⟨i2, 0, none⟩) m1 p1 c1 m2 p2 c2 sF (by omega) (hkF.1 hnd0) (by rw [hkF.2, hsz0]; omega) hcF _ (S.it (pdI x b1 b2 (.pointer (some ⟨i1, 0, none⟩)) (.pointer (some ⟨i2, 0, none⟩)) m1 p1 c1 m2 p2 c2 sF))) rfl ?_; clear S; rintro _ a w ⟨rfl, rA, hh6, hf6, hxA, hokA⟩ hS
      have S := hS (prI rA) hh6 hf6
      clear hS
      rw [show (PR.x ⟨x, b1, b2, i1, i2, g1, g2, seed, next, L1, L2⟩) = rA.x from hxA.symm] at S
      refine sq S ?_; clear S; intro a S
      refine wl_nil ?_
      refine xtn ?_
      refine c_condF S ?_
      refine c_skip ?_
      refine xtn ?_
      iterate 2 (refine c_seq ?_)
      refine c_region ?_
      refine sq S ?_; clear S; intro a S
      refine sr S (sfew_c pl cl l 5 hcl _) ?_; clear S; rintro _ a w rfl S
      obtain ⟨ops, hops⟩ : ∃ ops, ops = l.take 5 := ⟨_, rfl⟩
      have hopl : ops.length = min l.length 5 := by rw [hops, List.length_take]; omega
      rw [← hopl] at S
      replace S := S.add (Φ := GlF pl ops) ((S.mem.fact (GlF pl l)).imp fun _ h => by rw [hops]; exact h.take 5)
      iterate 2 (refine sq S ?_; clear S; intro a S)
      refine wl_nil ?_
      refine xtn ?_
      refine c_block ?_
      refine c_fore2 S (fun (k : Nat) (r : PR) uu => [(6, uu 6), (8, uu 15), (66, .int .i64 (k : Nat)), (0, uu 83), (0, uu 84), (0, uu 85), (0, uu 86), (0, uu 87), (0, uu 88), (0, uu 89), (0, uu 90), (0, uu 91), (0, uu 92), (0, uu 93), (0, uu 94), (0, uu 95)]) (fun (k : Nat) (r : PR) => [prI r]) (fun (k : Nat) (r : PR) => [GlF pl ops]) (fun (k : Nat) (r : PR) => k ≤ ops.length ∧ r.x = rA.x ∧ PrOk r (sF.loose.length + 5000 + 2000 * k)) (fun (k : Nat) (r : PR) => ops.length - k) (0) (rA) ?_ S.uu ?_ ?_
      · exact ⟨Nat.zero_le _, rfl, hokA⟩
      · exact S.sub [prI rA] [GlF pl ops]
      · clear S; rintro k r uu a w ⟨hk, hx, hok⟩ S
        refine c_seq ?_
        refine c_region ?_
        refine sq S ?_; clear S; intro a S
        refine wl_nil ?_
        refine xtn ?_
        refine c_seq ?_
        refine c_cond S (fun h21 => ?_) (fun h21 => ?_)
        · refine c_skip ?_
          refine xtn ?_
          refine c_seq ?_
          refine c_block ?_
          refine c_seq ?_
          have hk2 : k < ops.length := by have := of_decide_eq_true h21; omega
          have hK : KLt k ops.length := ⟨hk2⟩
          obtain ⟨o, ho⟩ : ∃ o, o = nthG ops k := ⟨_, rfl⟩
          have hom : o ∈ ops := ho ▸ nthG_mem hk2
          obtain ⟨hkc, hkf⟩ := sop_keep hom (S.mem.fact (GlF pl ops))
          replace S := S.add hkf
          refine c_region ?_
          iterate 2 (refine sq S ?_; clear S; intro a S)
          rw [← ho] at S
          refine sa S ?_; clear S; intro b15 a w S
          refine sw S ?_; clear S; intro a w S
          refine wl_nil ?_
          refine xtn ?_
          refine c_seq ?_
          refine c_region ?_
          iterate 2 (refine sq S ?_; clear S; intro a S)
          have hc := does_c r (sF.loose.length + 5000 + 2000 * k) hok (by omega) o hkc (hz o (List.mem_of_mem_take (hops ▸ hom))) w (S.it (prI r)) (S.lend (prI r) (S.mem.fact (GlF o.p o.keep)))
          rw [hx] at hc
          refine sit (prI r) S hc rfl ?_; clear S hc; rintro _ a w ⟨rfl, r', hh5, hf5, hx5, hok5⟩ hS
          have S := hS (prI r') hh5 hf5
          clear hS
          refine sq S ?_; clear S; intro a S
          rw [show (!true) = false from rfl] at S
          refine sq S ?_; clear S; intro a S
          refine gT' S ?_
          refine sq S ?_; clear S; intro a S
          refine gT' S ?_
          have ha := sagrees_c r' hok5.same w (S.it (prI r'))
          rw [hx5] at ha
          refine sr S ha ?_; clear S ha; rintro _ a w rfl S
          refine gT' S ?_
          refine sq S ?_; clear S; intro a S
          rw [show (!true) = false from rfl] at S
          refine sq S ?_; clear S; intro a S
          refine wl_nil ?_
          refine xtn ?_
          refine c_condF S ?_
          refine c_skip ?_
          refine xbn ?_
          refine xtn ?_
          refine c_region ?_
          iterate 2 (refine sq S ?_; clear S; intro a S)
          refine wl_nil ?_
          refine xtn ?_
          rw [w64 ((k : Int) + 1) (by omega) (by omega)] at S
          refine ⟨k + 1, r', S.uu, ⟨hk2, hx5, ?_⟩, (S.front (prI r')).sub _ _, by omega⟩
          rw [show sF.loose.length + 5000 + 2000 * (k + 1) = sF.loose.length + 5000 + 2000 * k + 2000 from by omega]; exact hok5
        · refine c_exit ?_
          iterate 2 (refine xte ?_)
          refine xbe ?_
          refine xtn ?_
          refine c_seq ?_
          replace S := St.open3 S
          replace S := S.front (sgI r.h1 r.b1 r.g1 r.seed (r.next : Nat) r.L1)
          replace S := S.ofBoth
          replace S := S.front (lgI r.b1 r.g1 r.L1)
          replace S := S.ofBoth
          replace S := S.front (mdI r.h2 r.b2 r.g2 r.seed (r.next : Nat) r.L2)
          replace S := S.ofBoth
          replace S := S.front (lgI r.b2 r.g2 r.L2)
          replace S := S.ofBoth
          replace S := S.front (dkI r.b1 r.L1.m r.L1.p r.L1.c r.L1.s)
          have hss : r.L2.s = r.L1.s := (congrArg LV.s hok.same).symm
          rw [hss, hx] at S
          replace S := S.toBoth
          have hlo : r.L1.s.loose.length ≤ sF.loose.length + 5000 + 2000 * k := hok.wf.loose
          refine c_drawE [(0, true), (1, true), (2, true), (3, true), (4, true), (5, true), (6, true), (7, true), (8, false), (9, true)] [Wk.box rA.x 55 (cPR r)] S ?_; clear S; intro w S
          iterate 8 (refine dq S ?_; clear S; intro a S)
          refine dl ?_
          refine sit (both (dkI r.b1 r.L1.m r.L1.p r.L1.c r.L1.s) (dkI r.b2 r.L2.m r.L2.p r.L2.c r.L1.s)) S (alike_c r.b1 r.L1.m r.L1.p r.L1.c r.b2 r.L2.m r.L2.p r.L2.c r.L1.s (by omega) hok.size hok.nd _ (S.it (both (dkI r.b1 r.L1.m r.L1.p r.L1.c r.L1.s) (dkI r.b2 r.L2.m r.L2.p r.L2.c r.L1.s)))) rfl ?_; clear S; rintro _ a w ⟨rfl, hh⟩ hS
          have S := hS (both (dkI r.b1 r.L1.m r.L1.p r.L1.c r.L1.s) (dkI r.b2 r.L2.m r.L2.p r.L2.c r.L1.s)) hh (fun k hk => .inl hk)
          clear hS
          refine de S ?_
          refine dq S ?_; clear S; intro a S
          refine dn ?_
          refine xtn ?_
          refine c_ret ?_
          exact end1 S (fun _ => rfl)
end Go.Proofs.YtlphkccfcodmcaaGreat

/- SignerDoes and SignerOpens answer true at every input and leave it as it was. No condition. -/
namespace Go.Proofs.YtlphkccfcodmcaaGreat
open Go Go.Wk
open Go.ChangeShapes Go.WideShapes Go.ChangeAt Go.RowKit
set_option maxRecDepth 100000

instance troBytesS : Tro Tryz.prog 58 (Sl UInt8) := troSl Tryz.underlying58 (by kernel_rfl)
instance troBrowsS : Tro Tryz.prog 59 (Sl (Sl UInt8)) := troSl Tryz.underlying59 (by kernel_rfl)
theorem signerdoes_lifted (os : Os) (started : os.Started) (H : Type) (enc : TypeId × Value → H) :
    ReturnsInHanded {} Tryz.checked os 4 .any (Rows.signerDoesSpec.pre6 enc Tryz.prog Tryz.f4 Rows.signerDoesRow.domain false) (Rows.signerDoesSpec.post enc Tryz.prog Tryz.f4 false true false false) := by
  refine returnsInHanded_of_change_sized (C := Tryz.checked) own started (by kernel_rfl) Tryz.func4
    (ChangeSpec.witness6 (enc := enc) (C := Tryz.checked) false ⟨#[], #[.int .i64 0, .agg ⟨.int .u8 0 :: .int .u8 0 :: .int .u8 0 :: .int .u8 0 :: .int .u8 0 :: .int .u8 0 :: .int .u8 0 :: .int .u8 0 :: .int .u8 0 :: .int .u8 0 :: .int .u8 0 :: .int .u8 0 :: .int .u8 0 :: .int .u8 0 :: .int .u8 0 :: .int .u8 0 :: .int .u8 0 :: .int .u8 0 :: .int .u8 0 :: .int .u8 0 :: .int .u8 0 :: .int .u8 0 :: .int .u8 0 :: .int .u8 0 :: .int .u8 0 :: .int .u8 0 :: .int .u8 0 :: .int .u8 0 :: .int .u8 0 :: .int .u8 0 :: .int .u8 0 :: .int .u8 0 :: []⟩, .slice none 0 0], []⟩ 8 (by kernel_rfl) (by kernel_rfl) (by kernel_rfl) (by kernel_rfl)) ?_
  intro W base args ds gs before hval0 hW _ hz _
  have hval : ∀ (j : Nat) t v, Tryz.f4.params[j]? = some t → args[j]? = some v → Value.okWide Tryz.prog W .any base t v := hval0
  have hW2 := hW
  obtain ⟨p, q, hA0, hV, rfl, _, _⟩ := hW
  have hA : DataW.TrodAll enc Tryz.prog W 0 (fun _ => true) true Tryz.f4.params.toList args.toList ds p := hA0
  rw [Tryz.params4] at hA hval
  obtain ⟨v0, v1, v2, d0, d1, d2, p0, p1, p2, rfl, rfl, rfl, h0, h1, h2⟩ := trodAll_three hA
  obtain ⟨rfl, rfl⟩ := trodVars_none hV
  obtain ⟨n, rfl, rfl, rfl, wn⟩ := open_int Tryz.underlying3 (hval 0 3 v0 rfl rfl) h0
  obtain ⟨s, rfl, h_s⟩ := arr_of_Trod (α := Dg) Tryz.underlying23 h1 (hval 1 23 v1 rfl rfl)
  obtain ⟨x, rfl, l_x, m_x, h_x, z0_x⟩ := slice_of_TrodZ (α := LSop) Tryz.underlying24 h2 (hval 2 24 v2 rfl rfl)
  have z_x := z0_x (fun n hn => of_decide_eq_true (List.all_eq_true.1 hz n (DataW.weights_mem_each (j := 2) rfl rfl n hn)))
  refine Ret.law (sdoes_c n s x.p x.cap x.xs (by omega) z_x.2 W h_x.stable) fun W1 hag => ?_
  exact ⟨_, rfl, law_post (B := 4) laidOut (by kernel_rfl) rfl rfl rfl hW2 rfl rfl rfl hag⟩
theorem signerdoes_holds : Rows.SignerDoesSaid :=
  OpenClaim.holds_of_wide 4 Tryz.f4 rfl rfl rfl rfl rfl rfl rfl ⟨rfl, rfl, rfl, rfl, rfl⟩ rfl rfl rfl rfl rfl (by kernel_rfl) Tryz.func4 (by kernel_rfl)
    (of_decide_eq_true (by kernel_rfl)) (by unfold Func.isWrapper; rw [if_neg (of_decide_eq_false (by kernel_rfl))]; exact ⟨rfl, rfl⟩)
    (fun os started H enc _ => signerdoes_lifted os started H enc)
theorem signeropens_lifted (os : Os) (started : os.Started) (H : Type) (enc : TypeId × Value → H) :
    ReturnsInHanded {} Tryz.checked os 5 .any (Rows.signerOpensSpec.pre6 enc Tryz.prog Tryz.f5 Rows.signerOpensRow.domain false) (Rows.signerOpensSpec.post enc Tryz.prog Tryz.f5 false true false false) := by
  refine returnsInHanded_of_change_sized (C := Tryz.checked) own started (by kernel_rfl) Tryz.func5
    (ChangeSpec.witness6 (enc := enc) (C := Tryz.checked) false ⟨#[], #[.slice none 0 0, .slice none 0 0, .slice none 0 0], []⟩ 8 (by kernel_rfl) (by kernel_rfl) (by kernel_rfl) (by kernel_rfl)) ?_
  intro W base args ds gs before hval0 hW _ hz _
  have hval : ∀ (j : Nat) t v, Tryz.f5.params[j]? = some t → args[j]? = some v → Value.okWide Tryz.prog W .any base t v := hval0
  have hW2 := hW
  obtain ⟨p, q, hA0, hV, rfl, _, _⟩ := hW
  have hA : DataW.TrodAll enc Tryz.prog W 0 (fun _ => true) true Tryz.f5.params.toList args.toList ds p := hA0
  rw [Tryz.params5] at hA hval
  obtain ⟨v0, v1, v2, d0, d1, d2, p0, p1, p2, rfl, rfl, rfl, h0, h1, h2⟩ := trodAll_three hA
  obtain ⟨rfl, rfl⟩ := trodVars_none hV
  obtain ⟨b, rfl, l_b, m_b, h_b⟩ := slice_of_Trod (α := UInt8) Tryz.underlying58 h0 (hval 0 58 v0 rfl rfl)
  obtain ⟨r, rfl, l_r, m_r, h_r⟩ := slice_of_Trod (α := (Sl UInt8)) Tryz.underlying59 h1 (hval 1 59 v1 rfl rfl)
  obtain ⟨x, rfl, l_x, m_x, h_x, z0_x⟩ := slice_of_TrodZ (α := LSop) Tryz.underlying24 h2 (hval 2 24 v2 rfl rfl)
  have z_x := z0_x (fun n hn => of_decide_eq_true (List.all_eq_true.1 hz n (DataW.weights_mem_each (j := 2) rfl rfl n hn)))
  refine Ret.law (sopens_c b.p b.cap b.xs (by omega) r.p r.cap r.xs (by omega) x.p x.cap x.xs (by omega) z_x.2 W h_b.stable h_r.stable h_x.stable) fun W1 hag => ?_
  exact ⟨_, rfl, law_post (B := 4) laidOut (by kernel_rfl) rfl rfl rfl hW2 rfl rfl rfl hag⟩
theorem signeropens_holds : Rows.SignerOpensSaid :=
  OpenClaim.holds_of_wide 5 Tryz.f5 rfl rfl rfl rfl rfl rfl rfl ⟨rfl, rfl, rfl, rfl, rfl⟩ rfl rfl rfl rfl rfl (by kernel_rfl) Tryz.func5 (by kernel_rfl)
    (of_decide_eq_true (by kernel_rfl)) (by unfold Func.isWrapper; rw [if_neg (of_decide_eq_false (by kernel_rfl))]; exact ⟨rfl, rfl⟩)
    (fun os started H enc _ => signeropens_lifted os started H enc)
end Go.Proofs.YtlphkccfcodmcaaGreat
