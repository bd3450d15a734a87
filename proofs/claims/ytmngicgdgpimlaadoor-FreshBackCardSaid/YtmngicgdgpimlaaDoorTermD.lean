/- Package term: Same. -/
import Derived.Test.YtmngicgdgpimlaaDoorTermC
namespace Go.Proofs.YtmngicgdgpimlaaDoor
open Go Go.Wk
set_option synthInstance.maxSize 100000
set_option synthInstance.maxHeartbeats 400000
set_option maxRecDepth 100000

mutual
def sameF : Term → Term → Bool
  | .mk k u n s ks, .mk k' u' n' s' ks' => decide (k = k') && decide (u = u') && decide (n = n') && decide (s = s') && sameLF ks ks'
def sameLF : List Term → List Term → Bool
  | [], [] => true
  | a :: l, b :: m => sameF a b && sameLF l m
  | [], _ :: _ => false
  | _ :: _, [] => false
end
mutual
theorem sameF_iff : ∀ a b : Term, sameF a b = true ↔ a = b
  | .mk k u n s ks, .mk k' u' n' s' ks' => by
    have := sameLF_iff ks ks'
    simp [sameF, this, and_assoc]
theorem sameLF_iff : ∀ a b : List Term, sameLF a b = true ↔ a = b
  | [], [] => by simp [sameLF]
  | a :: l, b :: m => by
    have h1 := sameF_iff a b
    have h2 := sameLF_iff l m
    simp [sameLF, h1, h2]
  | [], _ :: _ => by simp [sameLF]
  | _ :: _, [] => by simp [sameLF]
end
theorem sameLF_len {a b : List Term} (h : a.length ≠ b.length) : sameLF a b = false := by
  cases hs : sameLF a b with
  | false => rfl
  | true => exact absurd (by rw [(sameLF_iff a b).1 hs]) h


def SameC (N : Nat) : Prop := ∀ (x y : LTerm) (w : World), SizeOf.sizeOf x ≤ N → Stable (fun _ => False) w (LtF x) → Stable (fun _ => False) w (LtF y) → Ret Tryd.prog 24 [vL x, vL y] w (fun _ => False) fun v _ => v = .bool (sameF x.t y.t)

theorem equal_c (N : Nat) (hS : SameC N) (p q : Option Addr) (c e n m : Nat) (xs ys : List LTerm) (hn : xs.length = n) (hm : ys.length = m) (w0 : World) (hl : n ≤ 9223372036854775807) (hN : ∀ x ∈ xs, SizeOf.sizeOf x ≤ N) (hx : Stable (fun _ => False) w0 (LsF p 0 xs)) (hy : Stable (fun _ => False) w0 (LsF q 0 ys)) :
    Ret Tryd.prog 44 [.slice p n c, .slice q m e, .func (.func 24) #[] #[]] w0 (fun _ => False) fun v _ => v = .bool (sameLF (xs.map LTerm.t) (ys.map LTerm.t)) := by
  refine enter Tryd.func44 rfl rfl (Wd.begin (fs := [LsF p 0 xs, LsF q 0 ys]) (by simp; exact ⟨hx, hy⟩)) (fun a S => ?_)
  simp only [Tryd.ntmps44, List.length_cons, List.length_nil, Nat.reduceAdd, Nat.reduceSub, List.replicate_succ, List.replicate_zero, List.cons_append, List.nil_append] at S
  refine c_seq ?_
  refine c_region ?_
  refine sq S ?_; clear S; intro a S
  refine wl_nil ?_
  refine xtn ?_
  iterate 2 (refine c_seq ?_)
  refine c_region ?_
  iterate 5 (refine sq S ?_; clear S; intro a S)
  refine wl_nil ?_
  refine xtn ?_
  refine c_cond S (fun h1 => ?_) (fun h1 => ?_)
  · refine c_seq ?_
    refine c_region ?_
    refine sq S ?_; clear S; intro a S
    refine wl_nil ?_
    refine xtn ?_
    refine c_ret ?_
    refine xtr ?_
    refine end1 S (fun _ => ?_)
    rw [sameLF_len]
    simp [hn, hm]; simp at h1; omega
  · refine c_skip ?_
    refine xtn ?_
    iterate 2 (refine c_seq ?_)
    refine c_region ?_
    iterate 3 (refine sq S ?_; clear S; intro a S)
    refine wl_nil ?_
    refine xtn ?_
    refine c_block ?_
    obtain rfl : n = m := by simp at h1; omega
    refine c_loop (ι := Nat) (fun k a w => k ≤ n ∧ sameLF ((xs.drop k).map LTerm.t) ((ys.drop k).map LTerm.t) = sameLF (xs.map LTerm.t) (ys.map LTerm.t) ∧ ∃ uu : Nat → Value,  St w0 (fun _ => False) [] a w ((.slice p n c) :: (.slice q n e) :: (.func (.func 24) #[] #[]) :: uu 3 :: uu 4 :: uu 5 :: (.bool false) :: uu 7 :: uu 8 :: uu 9 :: uu 10 :: uu 11 :: uu 12 :: uu 13 :: uu 14 :: (.slice p n c) :: (.int .i64 n) :: (.int .i64 (k : Nat)) :: uu 18 :: uu 19 :: uu 20 :: uu 21 :: uu 22 :: uu 23 :: uu 24 :: uu 25 :: uu 26 :: uu 27 :: uu 28 :: uu 29 :: uu 30 :: uu 31 :: []) [] [LsF p 0 xs, LsF q 0 ys]) (fun k => n - k) 0 ?_ ?_
    · exact ⟨Nat.zero_le _, rfl, S.uu, S⟩
    · clear S
      rintro k a w ⟨hk, hrel, uu, S⟩
      refine c_seq ?_
      refine c_region ?_
      refine sq S ?_; clear S; intro a S
      refine wl_nil ?_
      refine xtn ?_
      refine c_seq ?_
      refine c_cond S (fun h4 => ?_) (fun h4 => ?_)
      · refine c_skip ?_
        refine xtn ?_
        refine c_seq ?_
        refine c_block ?_
        refine c_seq ?_
        refine c_region ?_
        refine sq S ?_; clear S; intro a S
        have hkl : k < n := by simpa using h4
        obtain ⟨x, ad, hx1, hxm, hxd, hp, hcell, hfx⟩ := ls_kid (S.fact (Φ := LsF p 0 xs) (by simp)) (k := k) (by omega)
        replace S := S.add hfx
        refine si S ad hp (by omega) (by omega) ?_; clear S; intro a S
        refine slA x.cells S hcell ?_; clear S; intro a S
        refine sa S ?_; clear S; intro b8 a w S
        refine sq S ?_; clear S; intro a S
        refine sw S ?_; clear S; intro a w S
        refine wl_nil ?_
        refine xtn ?_
        refine c_seq ?_
        refine c_region ?_
        iterate 2 (refine sq S ?_; clear S; intro a S)
        obtain ⟨y, ad', hy1, hym, hyd, hq, hcell', hfy⟩ := ls_kid (S.fact (Φ := LsF q 0 ys) (by simp)) (k := k) (by omega)
        replace S := S.add hfy
        refine si S ad' hq (by omega) (by omega) ?_; clear S; intro a S
        refine slA y.cells S hcell' ?_; clear S; intro a S
        refine sa S ?_; clear S; intro b9 a w S
        refine sw S ?_; clear S; intro a w S
        refine wl_nil ?_
        refine xtn ?_
        refine c_seq ?_
        refine c_region ?_
        iterate 3 (refine sq S ?_; clear S; intro a S)
        rw [hxd, hyd, List.map_cons, List.map_cons, sameLF] at hrel
        refine sr S (hS x y w (hN x hxm) (S.mem.fact0 (LtF x)) (S.mem.fact0 (LtF y))) ?_; clear S; rintro v a w rfl S
        refine sq S ?_; clear S; intro a S
        refine wl_nil ?_
        refine xtn ?_
        refine c_cond S (fun h7 => ?_) (fun h7 => ?_)
        · refine c_seq ?_
          refine c_region ?_
          refine sq S ?_; clear S; intro a S
          refine wl_nil ?_
          refine xtn ?_
          refine c_ret ?_
          refine xbr ?_
          iterate 2 (refine xtr ?_)
          refine xbr ?_
          refine xtr ?_
          refine end1 S (fun _ => ?_)
          have h8 : sameF x.t y.t = false := by simpa using h7
          simp [← hrel, h8]
        · refine c_skip ?_
          refine xbn ?_
          refine xtn ?_
          refine c_region ?_
          iterate 2 (refine sq S ?_; clear S; intro a S)
          refine wl_nil ?_
          refine xtn ?_
          have h8 : sameF x.t y.t = true := by simpa using h7
          rw [h8, Bool.true_and] at hrel
          replace S := S.sub [] [LsF p 0 xs, LsF q 0 ys]
          rw [w64 ((k : Int) + 1) (by omega) (by omega)] at S
          exact ⟨k + 1, ⟨hkl, hrel, S.uu, S⟩, by omega⟩
      · refine c_exit ?_
        iterate 2 (refine xte ?_)
        refine xbe ?_
        refine xtn ?_
        refine c_seq ?_
        refine c_region ?_
        refine sq S ?_; clear S; intro a S
        refine wl_nil ?_
        refine xtn ?_
        refine c_ret ?_
        refine end1 S (fun _ => ?_)
        have h6 : n ≤ k := by simpa using h4
        rw [List.drop_of_length_le (by omega), List.drop_of_length_le (by omega)] at hrel
        simp [← hrel, sameLF]

theorem same_all : ∀ N, SameC N := by
  intro N
  induction N with
  | zero => intro x y w h; cases x; simp at h
  | succ N ih =>
  intro x y w0 hN hx hy
  have e1 := x.t_eq
  have e2 := y.t_eq
  have hq : ∀ {bs fs} [HasT fs x] [HasT fs y], CallV Tryd.prog 44 [.slice x.p x.kids.length x.cap, .slice y.p y.kids.length y.cap, .func (.func 24) #[] #[]] bs fs (.bool (sameLF (x.kids.map LTerm.t) (y.kids.map LTerm.t))) :=
    ⟨fun w m => equal_c N ih x.p y.p x.cap y.cap _ _ x.kids y.kids rfl rfl w (LTerm.len_le hx) (fun z hz => by have := LTerm.kid_lt hz; omega) (ls_of_lt (m.t0 _)) (ls_of_lt (m.t0 _))⟩
  refine enter Tryd.func24 rfl rfl (Wd.begin (fs := [LtF x, LtF y]) (by simp; exact ⟨hx, hy⟩)) (fun a S => ?_)
  simp only [Tryd.ntmps24, List.length_cons, List.length_nil, Nat.reduceAdd, Nat.reduceSub, List.replicate_succ, List.replicate_zero, List.cons_append, List.nil_append] at S
  refine c_seq ?_
  refine c_region ?_
  refine sa S ?_; clear S; intro b2 a w S
  refine sa S ?_; clear S; intro b3 a w S
  refine sq S ?_; clear S; intro a S
  refine wl_nil ?_
  refine xtn ?_
  refine c_seq ?_
  refine c_region ?_
  iterate 6 (refine sq S ?_; clear S; intro a S)
  iterate 5 (refine gQ S ?_; clear S; intro a S)
  iterate 2 (refine sq S ?_; clear S; intro a S)
  iterate 5 (refine gQ S ?_; clear S; intro a S)
  iterate 2 (refine sq S ?_; clear S; intro a S)
  iterate 5 (refine gQ S ?_; clear S; intro a S)
  iterate 2 (refine sq S ?_; clear S; intro a S)
  iterate 4 (refine gQ S ?_; clear S; intro a S)
  refine gC S ?_; clear S; intro a w S
  iterate 2 (refine sq S ?_; clear S; intro a S)
  refine wl_nil ?_
  refine xtn ?_
  refine c_ret ?_
  refine end1 S (fun _ => ?_)
  rw [e1, e2, sameF]
theorem same_c (x y : LTerm) (w : World) (hx : Stable (fun _ => False) w (LtF x)) (hy : Stable (fun _ => False) w (LtF y)) : Ret Tryd.prog 24 [vL x, vL y] w (fun _ => False) fun v _ => v = .bool (sameF x.t y.t) := same_all _ x y w (Nat.le_refl _) hx hy
instance {x y : LTerm} {bs fs} [HasT fs x] [HasT fs y] : CallV Tryd.prog 24 [vL x, vL y] bs fs (.bool (sameF x.t y.t)) := ⟨fun w m => same_c x y w (m.t0 _) (m.t0 _)⟩
end Go.Proofs.YtmngicgdgpimlaaDoor
