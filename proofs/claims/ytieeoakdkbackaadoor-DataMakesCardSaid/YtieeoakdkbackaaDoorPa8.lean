/- 8: a part of this claim's texts, joined: DataH RefNum RefNumB RefNumC RefGuard RefData DataJ RowData RowDataReads. -/
import Derived.Test.YtieeoakdkbackaaDoorPa7
import Derived.Lib.ConvBytes
import Derived.Test.YtieeoakdkbackaaDoorTie
import Derived.Test.YtieeoakdkbackaaDoorCards
import Derived.SevenTiedAt
/- Layer 17: what its laws ask first; DataBack. -/
namespace Go.Proofs.YtieeoakdkbackaaDoor
open Go Go.Wk
set_option synthInstance.maxSize 100000
set_option synthInstance.maxHeartbeats 400000
set_option maxRecDepth 100000

theorem x17large_c (N : Nat) : ∀ (t : LTerm) (deep left : Int) (b : Nat) (w0 : World), SizeOf.sizeOf t ≤ N → 0 ≤ deep → deep ≤ 81 → 0 ≤ left → left ≤ 1500 → Stable (fun k => k = b) w0 (LtF t) → w0.heap[b]? = some (.cells #[.int .i64 left] 3 (0, 0)) →
    Ret Tryd.prog 37 [vL t, .int .i64 deep, .pointer (some ⟨b, 0, none⟩)] w0 (fun k => k = b) fun v w' => v = .bool (largeF t.t deep left).1 ∧ w'.heap[b]? = some (.cells #[.int .i64 (largeF t.t deep left).2] 3 (0, 0)) := by
  induction N with
  | zero => intro t _ _ _ _ h; cases t; simp at h
  | succ N ih =>
  intro t deep left b w0 hN hd hd' hl hl' hf hb
  have e0 := t.t_eq
  refine enter Tryd.func37 rfl rfl (Wd.lent (fs := [LtF t]) hb (by simpa using hf)) (fun a S => ?_)
  simp only [Tryd.ntmps37, List.length_cons, List.length_nil, Nat.reduceAdd, Nat.reduceSub, List.replicate_succ, List.replicate_zero, List.cons_append, List.nil_append] at S
  refine c_seq ?_
  refine c_region ?_
  refine sa S ?_; clear S; intro b3 a w S
  refine sq S ?_; clear S; intro a S
  refine wl_nil ?_
  refine xtn ?_
  iterate 2 (refine c_seq ?_)
  refine c_region ?_
  iterate 4 (refine sq S ?_; clear S; intro a S)
  rw [w64 (left - 1) (by omega) (by omega)] at S
  refine sq S ?_; clear S; intro a S
  refine sw S ?_; clear S; intro a w S
  refine wl_nil ?_
  refine xtn ?_
  refine c_seq ?_
  refine c_region ?_
  iterate 5 (refine sq S ?_; clear S; intro a S)
  iterate 2 (refine gQ S ?_; clear S; intro a S)
  iterate 2 (refine sq S ?_; clear S; intro a S)
  iterate 4 (refine gQ S ?_; clear S; intro a S)
  iterate 2 (refine sq S ?_; clear S; intro a S)
  iterate 4 (refine gQ S ?_; clear S; intro a S)
  refine sq S ?_; clear S; intro a S
  refine wl_nil ?_
  refine xtn ?_
  refine c_cond S (fun h2 => ?_) (fun h2 => ?_)
  · refine c_seq ?_
    refine c_region ?_
    refine sq S ?_; clear S; intro a S
    refine wl_nil ?_
    refine xtn ?_
    refine c_ret ?_
    refine xtr ?_
    have hbx := S.box b
    refine end1 S (fun _ => ?_)
    have h3 : left - 1 < 0 ∨ 80 < deep ∨ 1000 < (t.text.length : Int) ∨ 10 < ((t.kids.map LTerm.t).length : Int) := by simpa [or_assoc] using h2
    rw [e0, largeF, if_pos h3]
    exact ⟨rfl, hbx⟩
  · refine c_skip ?_
    refine xtn ?_
    iterate 2 (refine c_seq ?_)
    refine c_region ?_
    iterate 4 (refine sq S ?_; clear S; intro a S)
    refine wl_nil ?_
    refine xtn ?_
    refine c_block ?_
    have h3 : ¬ (left - 1 < 0 ∨ 80 < deep ∨ 1000 < (t.text.length : Int) ∨ 10 < ((t.kids.map LTerm.t).length : Int)) := by simpa [and_assoc] using h2
    have hlen := LTerm.len_le hf
    refine c_loop (ι := Nat) (fun k a w => k ≤ t.kids.length ∧ ∃ lf, 0 ≤ lf ∧ lf ≤ 1500 ∧ largeLF ((t.kids.drop k).map LTerm.t) (deep + 1) lf = largeF t.t deep left ∧ ∃ uu : Nat → Value,  St w0 (fun k => k = b) [] a w ((vL t) :: (.int .i64 deep) :: (.pointer (some ⟨b, 0, none⟩)) :: (.pointer (some ⟨b3, 0, none⟩)) :: uu 4 :: uu 5 :: (.bool false) :: uu 7 :: uu 8 :: uu 9 :: uu 10 :: uu 11 :: uu 12 :: uu 13 :: uu 14 :: uu 15 :: uu 16 :: uu 17 :: uu 18 :: uu 19 :: uu 20 :: uu 21 :: uu 22 :: uu 23 :: uu 24 :: uu 25 :: uu 26 :: uu 27 :: uu 28 :: uu 29 :: uu 30 :: uu 31 :: uu 32 :: uu 33 :: uu 34 :: (.slice t.p t.kids.length t.cap) :: (.int .i64 t.kids.length) :: (.int .i64 (k : Nat)) :: uu 38 :: uu 39 :: uu 40 :: uu 41 :: uu 42 :: uu 43 :: uu 44 :: uu 45 :: uu 46 :: []) [box b3 24 t.cells, box b 3 [.int .i64 lf]] [LtF t]) (fun k => t.kids.length - k) 0 ?_ ?_
    · refine ⟨Nat.zero_le _, left - 1, by omega, by omega, ?_, S.uu, S⟩
      rw [e0, largeF, if_neg h3]; rfl
    · clear S
      rintro k a w ⟨hk, lf, hlf, hlf', hrel, uu, S⟩
      refine c_seq ?_
      refine c_region ?_
      refine sq S ?_; clear S; intro a S
      refine wl_nil ?_
      refine xtn ?_
      refine c_seq ?_
      refine c_cond S (fun h5 => ?_) (fun h5 => ?_)
      · refine c_skip ?_
        refine xtn ?_
        refine c_seq ?_
        refine c_block ?_
        refine c_seq ?_
        refine c_region ?_
        have hkl : k < t.kids.length := by simpa using h5
        have hK : KLt k t.kids.length := ⟨hkl⟩
        iterate 2 (refine sq S ?_; clear S; intro a S)
        refine sa S ?_; clear S; intro b8 a w S
        refine sw S ?_; clear S; intro a w S
        refine wl_nil ?_
        refine xtn ?_
        refine c_seq ?_
        refine c_region ?_
        iterate 3 (refine sq S ?_; clear S; intro a S)
        rw [w64 (deep + 1) (by omega) (by omega)] at S
        refine sq S ?_; clear S; intro a S
        rw [nth_drop hkl, List.map_cons, largeLF] at hrel
        have hb1 := largeF_le (nthL t.kids k).t (deep + 1) lf
        refine sb S (b := b) (ih (nthL t.kids k) (deep + 1) lf b w (by have := LTerm.kid_lt (nth_mem hkl); omega) (by omega) (by have : ¬ 80 < deep := fun h => h3 (.inr (.inl h)); omega) hlf hlf' ((S.t _).less fun _ _ hk => ⟨_, HasBox.mem (b := b), hk⟩) (S.box b)) ?_; clear S
        rintro v a w ⟨rfl, hcb⟩ hS
        have S := hS [.int .i64 _] _ inferInstance hcb
        clear hS
        refine wl_nil ?_
        refine xtn ?_
        refine c_cond S (fun h7 => ?_) (fun h7 => ?_)
        · refine c_seq ?_
          refine c_region ?_
          refine sq S ?_; clear S; intro a S
          refine wl_nil ?_
          refine xtn ?_
          refine c_ret ?_
          refine xbr ?_
          iterate 2 (refine xtr ?_)
          refine xbr ?_
          refine xtr ?_
          have hbx := S.box b
          refine end1 S (fun _ => ?_)
          have h8 : (largeF (nthL t.kids k).t (deep + 1) lf).1 = true := by simpa using h7
          rw [if_pos h8] at hrel
          rw [← hrel]
          exact ⟨rfl, hbx⟩
        · refine c_skip ?_
          refine xbn ?_
          refine xtn ?_
          refine c_region ?_
          iterate 2 (refine sq S ?_; clear S; intro a S)
          refine wl_nil ?_
          refine xtn ?_
          have h8 : (largeF (nthL t.kids k).t (deep + 1) lf).1 = false := by simpa using h7
          rw [if_neg (by simp [h8])] at hrel
          replace S := S.sub [box b3 24 t.cells, box b 3 [.int .i64 (largeF (nthL t.kids k).t (deep + 1) lf).2]] [LtF t]
          rw [w64 ((k : Int) + 1) (by omega) (by omega)] at S
          exact ⟨k + 1, ⟨hkl, _, largeF_ge _ (deep + 1) lf hlf h8, by omega, hrel, S.uu, S⟩, by omega⟩
      · refine c_exit ?_
        iterate 2 (refine xte ?_)
        refine xbe ?_
        refine xtn ?_
        refine c_seq ?_
        refine c_region ?_
        refine sq S ?_; clear S; intro a S
        refine wl_nil ?_
        refine xtn ?_
        refine c_ret ?_
        have hbx := S.box b
        refine end1 S (fun _ => ?_)
        have h6 : t.kids.length ≤ k := by simpa using h5
        rw [List.drop_of_length_le h6, List.map_nil, largeLF] at hrel
        rw [← hrel]
        exact ⟨rfl, hbx⟩
theorem x17over_c (t : LTerm) (w0 : World) (hf : Stable (fun _ => False) w0 (LtF t)) : Ret Tryd.prog 8 [vL t] w0 (fun _ => False) fun v _ => v = .bool (overF t.t) := by
  refine enter Tryd.func8 rfl rfl (Wd.begin (fs := [LtF t]) (by simpa using hf)) (fun a S => ?_)
  simp only [Tryd.ntmps8, List.length_cons, List.length_nil, Nat.reduceAdd, Nat.reduceSub, List.replicate_succ, List.replicate_zero, List.cons_append, List.nil_append] at S
  refine c_seq ?_
  refine c_region ?_
  refine sa S ?_; clear S; intro b1 a w S
  refine sq S ?_; clear S; intro a S
  refine wl_nil ?_
  refine xtn ?_
  refine c_seq ?_
  refine c_region ?_
  refine sa S ?_; clear S; intro b3 a w S
  refine sw S ?_; clear S; intro a w S
  refine wl_nil ?_
  refine xtn ?_
  refine c_seq ?_
  refine c_region ?_
  refine sq S ?_; clear S; intro a S
  refine sb S (b := b3) (x17large_c _ t 1 1500 b3 w (Nat.le_refl _) (by omega) (by omega) (by omega) (by omega) (S.fb b3 (by simp)) (S.box b3)) ?_; clear S
  rintro v a w ⟨rfl, hcb⟩ hS
  have S := hS [.int .i64 _] _ inferInstance hcb
  clear hS
  refine sq S ?_; clear S; intro a S
  refine wl_nil ?_
  refine xtn ?_
  refine c_ret ?_
  refine end1 S (fun _ => ?_)
  rfl
instance {t : LTerm} {bs fs} [HasT fs t] : CallV Tryd.prog 8 [vL t] bs fs (.bool (overF t.t)) := ⟨fun w m => x17over_c t w (m.t0 _)⟩
def overD (d : LDat) : Bool := decide ((1000 : Int) < d.name.length) || overF d.locked.t
theorem overd_c (d : LDat) (w0 : World) (hf : Stable (fun _ => False) w0 (LtF d.locked)) : Ret Tryd.prog 12 [vDat d] w0 (fun _ => False) fun v _ => v = .bool (overD d) := by
  refine enter Tryd.func12 rfl rfl (Wd.begin (fs := [LtF d.locked]) (by simpa using hf)) (fun a S => ?_)
  simp only [Tryd.ntmps12, List.length_cons, List.length_nil, Nat.reduceAdd, Nat.reduceSub, List.replicate_succ, List.replicate_zero, List.cons_append, List.nil_append] at S
  refine c_seq ?_
  refine c_region ?_
  refine sa S ?_; clear S; intro b1 a w S
  refine sq S ?_; clear S; intro a S
  refine wl_nil ?_
  refine xtn ?_
  refine c_seq ?_
  refine c_region ?_
  iterate 5 (refine sq S ?_; clear S; intro a S)
  iterate 2 (refine gQ S ?_; clear S; intro a S)
  refine gC S ?_; clear S; intro a w S
  iterate 2 (refine sq S ?_; clear S; intro a S)
  refine wl_nil ?_
  refine xtn ?_
  refine c_ret ?_
  refine end1 S (fun _ => rfl)
instance {d : LDat} {bs fs} [h : HasT fs d.locked] : CallV Tryd.prog 12 [vDat d] bs fs (.bool (overD d)) := ⟨fun w m => overd_c d w (m.t0 _)⟩
instance {d e : LDat} {bs fs} [h : HasT fs d.locked] [h2 : HasT fs e.locked] : CallV Tryd.prog 14 [vDat d, vDat e] bs fs (.bool (dsameB d.d e.d)) := ⟨fun w m => dsame_c d e w (m.t0 _) (m.t0 _)⟩
theorem fresh_dat {v n r : Int} {a c b m : Int} {j : Nat} {x : LTerm} (h : x.t = lkT a c j (freshT b m)) : (⟨[102], v, n, r, x⟩ : LDat).d = ⟨[102], v, n, r, lkT a c j (freshT b m)⟩ := by
  rw [LDat.d, h]
theorem wakes17_c (w0 : World) (ht : Stable (fun _ => False) w0 LibF) : Ret Tryd.prog 7 [] w0 (fun _ => False) fun v _ => v = .bool true := by
  refine enter Tryd.func7 rfl rfl (Wd.begin (fs := [TabF, LibF]) (by simp; exact ⟨ht.imp fun _ h => h.1, ht⟩)) (fun a S => ?_)
  simp only [Tryd.ntmps7, List.length_cons, List.length_nil, Nat.reduceAdd, Nat.reduceSub, List.replicate_succ, List.replicate_zero, List.cons_append, List.nil_append] at S
  refine c_seq ?_
  refine c_region ?_
  refine sq S ?_; clear S; intro a S
  refine wl_nil ?_
  refine xtn ?_
  refine c_seq ?_
  refine c_region ?_
  iterate 2 (refine sc S ?_; clear S; intro a w S)
  refine sa S ?_; clear S; intro b1 a w S
  refine sa S ?_; clear S; intro b2 a w S
  iterate 2 (refine sw S ?_; clear S; intro a w S)
  refine wl_nil ?_
  refine xtn ?_
  refine c_seq ?_
  refine c_region ?_
  iterate 2 (refine sq S ?_; clear S; intro a S)
  refine sr S (dlock_c (freshL 1 1) (freshL 2 2) _ w (foots_lt S) (S.t _) (S.t _)) ?_; clear S; rintro _ a w ⟨x, rfl, hx, hxf⟩ S
  have hlk := lock_fresh (a := 1) (c := 1) (b := 2) (m := 2) (by omega) (by omega) (by omega) (by omega) (j := 0) (by omega)
  rw [show iter stepF 0 (freshT 1 1) = (freshL 1 1).t from rfl, show freshT 2 2 = (freshL 2 2).t from rfl] at hlk
  rw [hlk] at hx S
  replace S := S.add hxf
  iterate 3 (refine sq S ?_; clear S; intro a S)
  refine sa S ?_; clear S; intro b3 a w S
  refine sw S ?_; clear S; intro a w S
  refine sq S ?_; clear S; intro a S
  refine wl_nil ?_
  refine xtn ?_
  refine c_seq ?_
  refine c_region ?_
  iterate 2 (refine sq S ?_; clear S; intro a S)
  refine sa S ?_; clear S; intro b5 a w S
  refine sw S ?_; clear S; intro a w S
  refine wl_nil ?_
  refine xtn ?_
  refine c_seq ?_
  refine c_region ?_
  refine sq S ?_; clear S; intro a S
  have hdx := fresh_dat (v := 1) (n := 8) (r := 2) hx
  have hdb := dat_f (v := 1) (n := 8) (r := 2) (by omega) (by omega) (by omega) (a := 1) (c := 1) (b := 2) (m := 2) (by omega) (by omega) (by omega) (by omega) (j := 0) (by omega)
  have hgd := good_dataF (v := 1) (n := 8) (r := 2) (leaf := 3) (by omega) (by omega) (by omega) (by omega) (a := 1) (c := 1) (b := 2) (m := 2) (by omega) (by omega) (by omega) (by omega) (j := 0) (by omega)
  refine sr S (dmake_c ⟨[102], 1, 8, 2, x⟩ 3 (by simp) _ w (foots_lt S) (S.mem.fact TabF) (S.t x)) ?_; clear S; rintro _ a w ⟨t, e, rfl, htf, he0, he1⟩ S
  rw [hdx] at he0 he1
  have he : e = 0 := Classical.byContradiction fun h => by
    rcases (he1 h).2 with q | q | q
    · rw [hdb] at q; exact absurd q.2 (by simp)
    · exact q.2.2 ⟨by omega, by omega⟩
    · exact q.2.2.2 hgd
  subst he
  have htt := (he0 rfl).2.2.2
  replace S := S.add htf
  iterate 3 (refine sq S ?_; clear S; intro a S)
  refine sa S ?_; clear S; intro b6 a w S
  refine sw S ?_; clear S; intro a w S
  refine sq S ?_; clear S; intro a S
  refine wl_nil ?_
  refine xtn ?_
  refine c_seq ?_
  refine c_region ?_
  refine sq S ?_; clear S; intro a S
  refine sr S (dread_c t _ w (foots_lt S) (S.mem.fact LibF) (S.t t)) ?_; clear S; rintro _ a w hR S
  rw [htt] at hR
  obtain ⟨y, rfl, hyf, hyl, hyd⟩ := hR.yes hdb hgd
  replace S := S.add hyf
  iterate 4 (refine sq S ?_; clear S; intro a S)
  refine sa S ?_; clear S; intro b8 a w S
  refine sw S ?_; clear S; intro a w S
  iterate 2 (refine sq S ?_; clear S; intro a S)
  refine wl_nil ?_
  refine xtn ?_
  refine c_seq ?_
  refine c_region ?_
  iterate 2 (refine sq S ?_; clear S; intro a S)
  refine sr S (dopen_c y (freshL 1 1) 8 (by omega) _ w (foots_lt S) (S.t y.locked) (S.t _)) ?_; clear S; rintro _ a w ⟨z, rfl, hz, hzf⟩ S
  have hop := open_fresh (v := 1) (n := 8) (r := 2) (k := 8) (by omega) (by omega) (by omega) (by omega) (a := 1) (c := 1) (b := 2) (m := 2) (by omega) (by omega) (by omega) (by omega)
  rw [show (8 - (8 : Int)).toNat = 0 from rfl, ← hyd, show iter stepF 0 (freshT 1 1) = (freshL 1 1).t from rfl, if_pos (by omega)] at hop
  rw [hop] at hz S
  replace S := S.add hzf
  iterate 3 (refine sq S ?_; clear S; intro a S)
  refine sa S ?_; clear S; intro b11 a w S
  refine sw S ?_; clear S; intro a w S
  refine sq S ?_; clear S; intro a S
  refine wl_nil ?_
  refine xtn ?_
  refine c_seq ?_
  refine c_region ?_
  iterate 3 (refine sq S ?_; clear S; intro a S)
  iterate 2 (refine gQ S ?_; clear S; intro a S)
  iterate 2 (refine sq S ?_; clear S; intro a S)
  iterate 2 (refine gQ S ?_; clear S; intro a S)
  iterate 2 (refine sq S ?_; clear S; intro a S)
  iterate 2 (refine gQ S ?_; clear S; intro a S)
  iterate 2 (refine sq S ?_; clear S; intro a S)
  iterate 2 (refine gQ S ?_; clear S; intro a S)
  iterate 2 (refine sq S ?_; clear S; intro a S)
  iterate 2 (refine gQ S ?_; clear S; intro a S)
  refine gC S ?_; clear S; intro a w S
  iterate 2 (refine sq S ?_; clear S; intro a S)
  refine wl_nil ?_
  refine xtn ?_
  refine c_ret ?_
  refine end1 S (fun _ => ?_)
  have h1 : sameF z.t (freshL 2 2).t = true := (sameF_iff _ _).2 (by rw [hz]; rfl)
  simp [h1]
end Go.Proofs.YtieeoakdkbackaaDoor

/- The reference's names, numbers, lists. -/
namespace Go.Proofs.YtieeoakdkbackaaDoor
open Go Go.Wk
set_option synthInstance.maxSize 100000
set_option synthInstance.maxHeartbeats 400000
set_option maxRecDepth 100000

/-! decimal digits -/
def valF : List UInt8 → Nat → Nat
  | [], n => n
  | c :: cs, n => valF cs (10 * n + (c.toNat - 48))
theorem valF_append (a b : List UInt8) (n : Nat) : valF (a ++ b) n = valF b (valF a n) := by
  induction a generalizing n with
  | nil => rfl
  | cons c cs ih => exact ih _
theorem valF_le (a : List UInt8) (n : Nat) : n ≤ valF a n := by
  induction a generalizing n with
  | nil => exact Nat.le_refl _
  | cons c cs ih => have := ih (10 * n + (c.toNat - 48)); rw [valF]; omega
theorem dig_toNat {d : Nat} (h : d < 10) : (UInt8.ofNat (48 + d)).toNat = 48 + d := by rw [UInt8.toNat_ofNat_of_lt' (by show 48 + d < 256; omega)]
theorem val_dec : ∀ (N u : Nat), u ≤ N → valF (Lib.decDigits u) 0 = u ∧ ∀ c ∈ Lib.decDigits u, 48 ≤ c.toNat ∧ c.toNat ≤ 57
  | 0, u, h => by
    obtain rfl : u = 0 := by omega
    rw [Lib.decDigits, dif_pos (by omega)]
    refine ⟨by rfl, fun c hc => ?_⟩
    obtain rfl := List.mem_singleton.1 hc
    decide
  | N + 1, u, h => by
    rw [Lib.decDigits]
    split
    · rename_i h1
      refine ⟨by rw [valF, dig_toNat h1, valF]; omega, fun c hc => ?_⟩
      obtain rfl := List.mem_singleton.1 hc
      rw [dig_toNat h1]; omega
    · rename_i h1
      obtain ⟨e1, e2⟩ := val_dec N (u / 10) (by omega)
      refine ⟨by rw [valF_append, e1, valF, dig_toNat (by omega), valF]; omega, fun c hc => ?_⟩
      rcases List.mem_append.1 hc with hc | hc
      · exact e2 c hc
      · obtain rfl := List.mem_singleton.1 hc
        rw [dig_toNat (by omega)]; omega
theorem dec_len : ∀ (k u : Nat), u < 10 ^ (k + 1) → (Lib.decDigits u).length ≤ k + 1
  | 0, u, h => by rw [Lib.decDigits, dif_pos (by omega)]; simp
  | k + 1, u, h => by
    rw [Lib.decDigits]
    split
    · simp
    · have := dec_len k (u / 10) (by rw [Nat.pow_succ] at h; omega)
      simp; omega
theorem itoa_dec {n : Int} (h : 0 ≤ n) : Lib.itoa n = Lib.decDigits n.toNat := by rw [Lib.itoa, if_neg (by omega)]
abbrev digS : List UInt8 := [48, 49, 50, 51, 52, 53, 54, 55, 56, 57]
theorem dig_one : ∀ k : Fin 10, (digS.take (k.val + 1)).drop k.val = [UInt8.ofNat (48 + k.val)] := by decide
theorem rdigits_all (N : Nat) : ∀ (n : Int) (w0 : World), n.toNat < N → n ≤ 9223372036854775807 → Ret Tryd.prog 53 [.int .i64 n] w0 (fun _ => False) fun v _ => v = str (Lib.itoa (max n 0)) := by
  induction N with
  | zero => intro n w0 hN; omega
  | succ N ih =>
  intro n w0 hN hn
  refine enter Tryd.func53 rfl rfl (Wd.start w0) (fun a S => ?_)
  simp only [Tryd.ntmps53, List.length_cons, List.length_nil, Nat.reduceAdd, Nat.reduceSub, List.replicate_succ, List.replicate_zero, List.cons_append, List.nil_append] at S
  refine c_seq ?_
  refine c_region ?_
  refine sq S ?_; clear S; intro a S
  refine wl_nil ?_
  refine xtn ?_
  iterate 2 (refine c_seq ?_)
  refine c_region ?_
  iterate 2 (refine sq S ?_; clear S; intro a S)
  refine wl_nil ?_
  refine xtn ?_
  refine c_cond S (fun h1 => ?_) (fun h1 => ?_)
  · refine c_seq ?_
    refine c_seq ?_
    refine c_region ?_
    iterate 2 (refine sq S ?_; clear S; intro a S)
    refine wl_nil ?_
    refine xtn ?_
    refine c_cond S (fun h2 => ?_) (fun h2 => ?_)
    · refine c_region ?_
      refine sq S ?_; clear S; intro a S
      refine wl_nil ?_
      refine xtn ?_
      refine c_seq ?_
      refine c_region ?_
      refine sq S ?_; clear S; intro a S
      obtain ⟨k, hk, hkn, hkm⟩ : ∃ k : Nat, k < 10 ∧ max n 0 = (k : Int) ∧ True := ⟨(max n 0).toNat, by simp at h1; omega, by omega, trivial⟩
      first
      | rw [show n = (k : Int) from by simp at h2; omega] at S
      | (have hk0 : k = 0 := by simp at h2; omega
         rw [show Value.int .i64 0 = .int .i64 ((k : Nat) : Int) from by rw [hk0]; rfl] at S)
      have hL1 : LeC (k + 1) digS.length := ⟨by simp; omega⟩
      have hL2 : LeC k (k + 1) := ⟨by omega⟩
      iterate 2 (refine sq S ?_; clear S; intro a S)
      first
      | rw [w64 ((k : Int) + 1) (by omega) (by omega), show (k : Int) + 1 = ((k + 1 : Nat) : Int) from by omega] at S
      | skip
      iterate 2 (refine sq S ?_; clear S; intro a S)
      refine wl_nil ?_
      refine xtn ?_
      refine c_ret ?_
      refine xtr ?_
      refine end1 S (fun _ => ?_)
      rw [hkn, itoa_dec (by omega), Lib.decDigits, dif_pos (by omega)]
      have := dig_one ⟨k, hk⟩
      simp only at this
      rw [this]; rfl
    · refine c_skip ?_
      refine xtn ?_
      refine c_seq ?_
      refine c_region ?_
      refine sq S ?_; clear S; intro a S
      obtain ⟨k, hk, hkn, hkm⟩ : ∃ k : Nat, k < 10 ∧ max n 0 = (k : Int) ∧ True := ⟨(max n 0).toNat, by simp at h1; omega, by omega, trivial⟩
      first
      | rw [show n = (k : Int) from by simp at h2; omega] at S
      | (have hk0 : k = 0 := by simp at h2; omega
         rw [show Value.int .i64 0 = .int .i64 ((k : Nat) : Int) from by rw [hk0]; rfl] at S)
      have hL1 : LeC (k + 1) digS.length := ⟨by simp; omega⟩
      have hL2 : LeC k (k + 1) := ⟨by omega⟩
      iterate 2 (refine sq S ?_; clear S; intro a S)
      first
      | rw [w64 ((k : Int) + 1) (by omega) (by omega), show (k : Int) + 1 = ((k + 1 : Nat) : Int) from by omega] at S
      | skip
      iterate 2 (refine sq S ?_; clear S; intro a S)
      refine wl_nil ?_
      refine xtn ?_
      refine c_ret ?_
      refine xtr ?_
      refine end1 S (fun _ => ?_)
      rw [hkn, itoa_dec (by omega), Lib.decDigits, dif_pos (by omega)]
      have := dig_one ⟨k, hk⟩
      simp only at this
      rw [this]; rfl
  · refine c_skip ?_
    refine xtn ?_
    refine c_seq ?_
    obtain ⟨m, rfl⟩ : ∃ m : Nat, n = (m : Int) := ⟨n.toNat, by simp at h1; omega⟩
    have hm : 10 ≤ m := by simp at h1; omega
    have e1 : (m : Int).tdiv 10 = ((m / 10 : Nat) : Int) := by rw [Int.tdiv_eq_ediv_of_nonneg (by omega)]; omega
    have e2 : (m : Int).tmod 10 = ((m % 10 : Nat) : Int) := by rw [Int.tmod_eq_emod_of_nonneg (by omega)]; omega
    have hL1 : LeC (m % 10 + 1) digS.length := ⟨by simp; omega⟩
    have hL2 : LeC (m % 10) (m % 10 + 1) := ⟨by omega⟩
    have hlen : LeC ((Lib.itoa ((m / 10 : Nat) : Int)).length + ((digS.take (m % 10 + 1)).drop (m % 10)).length) 4611686018427387904 := ⟨by
      have h1 := Lib.itoa_length_le ((m / 10 : Nat) : Int) (by omega) (by omega)
      have h2 : ((digS.take (m % 10 + 1)).drop (m % 10)).length ≤ 10 := by rw [List.length_drop, List.length_take]; simp only [digS, List.length_cons, List.length_nil]; omega
      omega⟩
    refine c_drawD [(0, true), (1, true), (3, true), (4, true), (5, true), (6, true), (7, true), (8, true), (2, false), (9, true), (10, true)] [] S ?_; clear S; intro w S
    iterate 2 (refine dq S ?_; clear S; intro a S)
    rw [e1, w64 _ (by omega) (by omega)] at S
    iterate 2 (refine dq S ?_; clear S; intro a S)
    rw [e2] at S
    iterate 2 (refine dq S ?_; clear S; intro a S)
    rw [e2] at S
    refine dq S ?_; clear S; intro a S
    rw [w64 (((m % 10 : Nat) : Int) + 1) (by omega) (by omega), show ((m % 10 : Nat) : Int) + 1 = ((m % 10 + 1 : Nat) : Int) from by omega] at S
    refine dq S ?_; clear S; intro a S
    refine dl ?_
    refine sr S (ih ((m / 10 : Nat) : Int) _ (by omega) (by omega)) ?_; clear S; rintro _ a w rfl S
    rw [show max ((m / 10 : Nat) : Int) 0 = ((m / 10 : Nat) : Int) from by omega] at S
    refine de S ?_
    iterate 2 (refine dq S ?_; clear S; intro a S)
    refine dn ?_
    refine xtn ?_
    refine c_ret ?_
    refine end1 S (fun _ => ?_)
    have := dig_one ⟨m % 10, by omega⟩
    simp only at this
    rw [this, show max (m : Int) 0 = (m : Int) from by omega, itoa_dec (by omega), itoa_dec (by omega), show ((m / 10 : Nat) : Int).toNat = m / 10 from by omega, show (m : Int).toNat = m from by omega]
    conv => rhs; rw [Lib.decDigits, dif_neg (by omega)]
theorem rdigits_c (n : Int) (w0 : World) (hn : n ≤ 9223372036854775807) : Ret Tryd.prog 53 [.int .i64 n] w0 (fun _ => False) fun v _ => v = str (Lib.itoa (max n 0)) := rdigits_all _ n w0 (Nat.lt_succ_self _) hn
theorem nthG_val {α : Type} [Lay α] {xs : List α} {k : Nat} (h : k < xs.length) : nthG xs k = xs[k] := by
  have := nthG_get h
  rw [List.getElem?_eq_getElem h] at this
  injection this with this
  exact this.symm
theorem rname_c (s : List UInt8) (hl : s.length ≤ 1000000) (w0 : World) : Ret Tryd.prog 50 [str s] w0 (fun _ => False) fun v _ => v = .bool (nameB s) := by
  refine enter Tryd.func50 rfl rfl (Wd.start w0) (fun a S => ?_)
  simp only [Tryd.ntmps50, List.length_cons, List.length_nil, Nat.reduceAdd, Nat.reduceSub, List.replicate_succ, List.replicate_zero, List.cons_append, List.nil_append] at S
  refine c_seq ?_
  refine c_region ?_
  refine sq S ?_; clear S; intro a S
  refine wl_nil ?_
  refine xtn ?_
  iterate 2 (refine c_seq ?_)
  refine c_region ?_
  refine sq S ?_; clear S; intro a S
  refine wl_nil ?_
  refine xtn ?_
  refine c_block ?_
  refine c_forb1 S (fun (k : Nat) uu => [(2, uu 2), (0, .int .i64 (k : Nat)), (0, uu 4), (0, uu 5), (0, uu 6), (0, uu 7), (0, uu 8), (0, uu 9), (0, uu 10), (0, uu 11), (0, uu 12), (0, uu 13), (0, uu 14), (0, uu 15), (0, uu 16), (0, uu 17), (0, uu 18), (0, uu 19)]) (fun (k : Nat) => k ≤ s.length ∧ ∀ j, j < k → chB (nthG s j) = true) (fun (k : Nat) => s.length - k) (0) ?_ S.uu ?_ ?_
  · exact ⟨Nat.zero_le _, fun j hj => by omega⟩
  · first | exact S | exact S.sub _ _
  · clear S; rintro k uu a w ⟨hk, hrel⟩ S
    iterate 2 (refine c_seq ?_)
    refine c_region ?_
    iterate 4 (refine sq S ?_; clear S; intro a S)
    refine wl_nil ?_
    refine xtn ?_
    refine c_cond S (fun h2 => ?_) (fun h2 => ?_)
    · refine c_skip ?_
      refine xtn ?_
      refine c_seq ?_
      refine c_block ?_
      refine c_seq ?_
      have hkl : k < s.length := by simp at h2; omega
      have hK : KLt k s.length := ⟨hkl⟩
      refine c_region ?_
      iterate 5 (refine sq S ?_; clear S; intro a S)
      iterate 4 (refine gQ S ?_; clear S; intro a S)
      refine sq S ?_; clear S; intro a S
      refine wl_nil ?_
      refine xtn ?_
      refine c_cond S (fun h4 => ?_) (fun h4 => ?_)
      · refine c_seq ?_
        refine c_region ?_
        refine sq S ?_; clear S; intro a S
        refine wl_nil ?_
        refine xtn ?_
        refine c_ret ?_
        refine xbr ?_
        iterate 2 (refine xtr ?_)
        refine xbr ?_
        refine xtr ?_
        refine end1 S (fun _ => ?_)
        have hbad : chB (nthG s k) = false := by
          simp only [Bool.or_eq_true, decide_eq_true_eq] at h4
          simp only [chB, Bool.and_eq_false_iff, decide_eq_false_iff_not]
          omega
        have hall : s.all chB = false := List.all_eq_false.2 ⟨nthG s k, nthG_mem hkl, by rw [hbad]; simp⟩
        rw [nameB, hall]; rfl
      · refine c_skip ?_
        refine xbn ?_
        refine xtn ?_
        refine c_region ?_
        iterate 3 (refine sq S ?_; clear S; intro a S)
        refine wl_nil ?_
        refine xtn ?_
        rw [w64 ((k : Int) + 1) (by omega) (by omega)] at S
        refine ⟨k + 1, S.uu, ⟨hkl, fun j hj => ?_⟩, S.sub _ _, by omega⟩
        rcases Nat.lt_or_ge j k with h | h
        · exact hrel j h
        · obtain rfl : j = k := by omega
          simp only [Bool.or_eq_false_iff, decide_eq_false_iff_not] at h4
          simp only [chB, Bool.and_eq_true, decide_eq_true_eq]
          omega
    · refine c_exit ?_
      iterate 2 (refine xte ?_)
      refine xbe ?_
      refine xtn ?_
      refine c_seq ?_
      refine c_region ?_
      iterate 4 (refine sq S ?_; clear S; intro a S)
      iterate 3 (refine gQ S ?_; clear S; intro a S)
      iterate 2 (refine sq S ?_; clear S; intro a S)
      refine wl_nil ?_
      refine xtn ?_
      refine c_ret ?_
      have hall : s.all chB = true := by
        refine List.all_eq_true.2 fun x hx => ?_
        obtain ⟨j, hj, rfl⟩ := List.getElem_of_mem hx
        have := hrel j (by simp at h2; omega)
        rwa [nthG_val hj] at this
      refine end1 S (fun _ => ?_)
      rw [nameB, hall, Bool.true_and]
      congr 1
      rw [Bool.eq_iff_iff]
      simp only [Bool.and_eq_true, decide_eq_true_eq]
      omega
end Go.Proofs.YtieeoakdkbackaaDoor

/- The reference's Number, Unlist, List. -/
namespace Go.Proofs.YtieeoakdkbackaaDoor
open Go Go.Wk
set_option synthInstance.maxSize 100000
set_option synthInstance.maxHeartbeats 400000
set_option maxRecDepth 100000

theorem text_of {t : LTerm} {s : List UInt8} (h : t.t = textT s) : t.kind = 1 ∧ t.text = s ∧ t.t = textT t.text := by
  have h0 := h
  rw [t.t_eq] at h
  simp only [textT, Term.mk.injEq] at h
  exact ⟨h.1, h.2.2.2.1, by rw [h.2.2.2.1]; exact h0⟩
def isD (c : UInt8) : Prop := 48 ≤ c.toNat ∧ c.toNat ≤ 57
theorem val_take {s : List UInt8} {k : Nat} (h : k < s.length) : valF (s.take (k + 1)) 0 = 10 * valF (s.take k) 0 + ((nthG s k).toNat - 48) := by
  rw [nthG_take h, valF_append]; rfl
theorem val_pre (s : List UInt8) (k : Nat) : valF (s.take k) 0 ≤ valF s 0 := by
  have e : valF s 0 = valF (s.drop k) (valF (s.take k) 0) := by rw [← valF_append, List.take_append_drop]
  rw [e]; exact valF_le _ _
theorem num_text {t : LTerm} {m most : Int} (h : t.t = textT (Lib.itoa m)) (h0 : 0 ≤ m) (h1 : m ≤ most) (hm : most ≤ 65535) :
    t.kind = 1 ∧ 1 ≤ t.text.length ∧ t.text.length ≤ 19 ∧ sameF t.t (textL t.text).t = true ∧ t.text = Lib.itoa m ∧ (valF t.text 0 : Int) = m ∧ ∀ k, k < t.text.length → isD (nthG t.text k) := by
  obtain ⟨e1, e2, e3⟩ := text_of h
  have e4 := itoa_dec h0
  obtain ⟨v1, v2⟩ := val_dec _ m.toNat (Nat.le_refl _)
  have hl := dec_len 4 m.toNat (by omega)
  obtain ⟨c, r, hd, -, -⟩ := dec_head _ m.toNat (Nat.le_refl _)
  refine ⟨e1, by rw [e2, e4, hd]; simp, by rw [e2, e4]; omega, (sameF_iff _ _).2 e3, e2, by rw [e2, e4, v1]; omega, fun k hk => ?_⟩
  have := nthG_mem hk
  rw [e2, e4] at this
  have h2 := v2 _ this
  rw [e2, e4]; exact h2
theorem rnumber_c (t : LTerm) (most : Int) (hm : most ≤ 65535) (hlo : -9223372036854775808 ≤ most) (w0 : World) (hf : Stable (fun _ => False) w0 (LtF t)) :
    Ret Tryd.prog 45 [vL t, .int .i64 most] w0 (fun _ => False) fun v _ => ∃ (n : Int) (b : Bool), v = .tuple ⟨[.int .i64 n, .bool b]⟩ ∧ (b = true → (0 ≤ n ∧ n ≤ most) ∧ t.t = textT (Lib.itoa n)) ∧ (b = false → n = 0 ∧ ∀ m, 0 ≤ m → m ≤ most → t.t ≠ textT (Lib.itoa m)) := by
  refine enter Tryd.func45 rfl rfl (Wd.begin (fs := [LtF t]) (by simpa using hf)) (fun a S => ?_)
  simp only [Tryd.ntmps45, List.length_cons, List.length_nil, Nat.reduceAdd, Nat.reduceSub, List.replicate_succ, List.replicate_zero, List.cons_append, List.nil_append] at S
  refine c_seq ?_
  refine c_region ?_
  refine sa S ?_; clear S; intro b2 a w S
  iterate 2 (refine sq S ?_; clear S; intro a S)
  refine wl_nil ?_
  refine xtn ?_
  iterate 2 (refine c_seq ?_)
  refine c_drawD [(0, true), (1, true), (2, true), (3, true), (4, true), (5, true), (6, true), (7, true), (8, true), (9, true), (10, true), (11, true), (12, true), (13, true), (14, true), (15, true), (16, true), (17, true), (18, true), (19, true), (20, true), (21, true), (22, true), (23, false), (24, false), (25, true), (26, true)] [] S ?_; clear S; intro w S
  iterate 4 (refine dq S ?_; clear S; intro a S)
  iterate 2 (refine dqG S ?_; clear S; intro a S)
  iterate 2 (refine dq S ?_; clear S; intro a S)
  iterate 4 (refine dqG S ?_; clear S; intro a S)
  iterate 2 (refine dq S ?_; clear S; intro a S)
  iterate 4 (refine dqG S ?_; clear S; intro a S)
  iterate 2 (refine dq S ?_; clear S; intro a S)
  iterate 3 (refine dqG S ?_; clear S; intro a S)
  refine dl ?_
  refine gC S ?_; clear S; intro a w S
  refine de S ?_
  refine dl ?_
  refine gC S ?_; clear S; intro a w S
  refine de S ?_
  refine dqG S ?_; clear S; intro a S
  refine dq S ?_; clear S; intro a S
  refine dn ?_
  refine xtn ?_
  refine c_cond S (fun h1 => ?_) (fun h1 => ?_)
  · refine c_seq ?_
    refine c_region ?_
    iterate 2 (refine sq S ?_; clear S; intro a S)
    refine wl_nil ?_
    refine xtn ?_
    refine c_ret ?_
    refine xtr ?_
    refine end2 S (fun _ => ?_)
    refine ⟨0, false, rfl, nofun, fun _ => ⟨rfl, fun m h0 h2 he => ?_⟩⟩
    obtain ⟨a1, a2, a3, a4, -, -, -⟩ := num_text he h0 h2 hm
    simp [a1, a4] at h1
    omega
  · refine c_skip ?_
    refine xtn ?_
    refine c_seq ?_
    simp only [Bool.or_eq_false_iff, decide_eq_false_iff_not, Bool.not_eq_false'] at h1
    have hmost : 0 ≤ most := by omega
    have hln : t.text.length ≤ 19 := by omega
    have hsm : t.t = textT t.text := (sameF_iff _ _).1 h1.2
    refine c_region ?_
    refine sq S ?_; clear S; intro a S
    refine wl_nil ?_
    refine xtn ?_
    iterate 2 (refine c_seq ?_)
    refine c_region ?_
    refine sq S ?_; clear S; intro a S
    refine wl_nil ?_
    refine xtn ?_
    refine c_block ?_
    refine c_forb1 S (fun (k : Nat) uu => [(4, uu 4), (0, uu 5), (0, .int .i64 ((valF (t.text.take k) 0 : Nat) : Int)), (0, .int .i64 (k : Nat)), (0, uu 8), (27, uu 36), (0, uu 37), (0, uu 38), (0, uu 39), (0, uu 40), (0, uu 41), (0, uu 42), (0, uu 43), (0, uu 44), (0, uu 45), (0, uu 46), (0, uu 47), (0, uu 48), (0, uu 49), (0, uu 50), (0, uu 51), (0, uu 52), (0, uu 53), (0, uu 54), (0, uu 55), (0, uu 56), (0, uu 57), (0, uu 58), (0, uu 59), (0, uu 60), (0, uu 61), (0, uu 62), (0, uu 63), (0, uu 64), (0, uu 65), (0, uu 66), (0, uu 67), (0, uu 68), (0, uu 69), (0, uu 70), (0, uu 71), (0, uu 72), (0, uu 73), (0, uu 74), (0, uu 75)]) (fun (k : Nat) => k ≤ t.text.length ∧ ((valF (t.text.take k) 0 : Nat) : Int) ≤ most) (fun (k : Nat) => t.text.length - k) (0) ?_ S.uu ?_ ?_
    · exact ⟨Nat.zero_le _, by show (0 : Int) ≤ most; omega⟩
    · first | exact S | exact S.sub _ _
    · clear S; rintro k uu a w ⟨hk, hval⟩ S
      iterate 2 (refine c_seq ?_)
      refine c_region ?_
      iterate 5 (refine sq S ?_; clear S; intro a S)
      refine wl_nil ?_
      refine xtn ?_
      refine c_cond S (fun h5 => ?_) (fun h5 => ?_)
      · refine c_skip ?_
        refine xtn ?_
        refine c_seq ?_
        refine c_block ?_
        iterate 2 (refine c_seq ?_)
        have hkl : k < t.text.length := by simp at h5; omega
        have hK : KLt k t.text.length := ⟨hkl⟩
        refine c_region ?_
        iterate 6 (refine sq S ?_; clear S; intro a S)
        iterate 5 (refine gQ S ?_; clear S; intro a S)
        refine sq S ?_; clear S; intro a S
        refine wl_nil ?_
        refine xtn ?_
        refine c_cond S (fun h7 => ?_) (fun h7 => ?_)
        · refine c_seq ?_
          refine c_region ?_
          iterate 2 (refine sq S ?_; clear S; intro a S)
          refine wl_nil ?_
          refine xtn ?_
          refine c_ret ?_
          refine xtr ?_
          refine xbr ?_
          iterate 2 (refine xtr ?_)
          refine xbr ?_
          refine xtr ?_
          refine end2 S (fun _ => ?_)
          refine ⟨0, false, rfl, nofun, fun _ => ⟨rfl, fun m h0 h2 he => ?_⟩⟩
          obtain ⟨-, -, -, -, -, -, a7⟩ := num_text he h0 h2 hm
          have := a7 k hkl
          simp only [Bool.or_eq_true, decide_eq_true_eq, isD] at h7 this
          omega
        · refine c_skip ?_
          refine xtn ?_
          refine c_seq ?_
          have hdig : 48 ≤ (nthG t.text k).toNat ∧ (nthG t.text k).toNat ≤ 57 := by
            simp only [Bool.or_eq_false_iff, decide_eq_false_iff_not] at h7; omega
          have hvt := val_take hkl
          refine c_region ?_
          iterate 5 (refine sq S ?_; clear S; intro a S)
          rw [show IntKind.u8.wrap (((nthG t.text k).toNat : Int) - 48) = (((nthG t.text k).toNat - 48 : Nat) : Int) from by rw [u8_wrap, show ((nthG t.text k).toNat : Int) - 48 = (((nthG t.text k).toNat - 48 : Nat) : Int) from by omega]; simp [Wk.u8]; omega] at S
          refine sq S ?_; clear S; intro a S
          rw [w64 _ (by omega) (by omega)] at S
          generalize hd : (nthG t.text k).toNat - 48 = dg at S hvt
          refine sq S ?_; clear S; intro a S
          refine wl_nil ?_
          refine xtn ?_
          iterate 2 (refine c_seq ?_)
          have hd9 : dg ≤ 9 := by omega
          have e0 : IntKind.i64.wrap (most - (dg : Int)) = most - dg := w64 _ (by omega) (by omega)
          have e1 : ¬ most < (dg : Int) → IntKind.i64.wrap ((IntKind.i64.wrap (most - (dg : Int))).tdiv 10) = (most - dg) / 10 := fun h => by
            rw [e0, Int.tdiv_eq_ediv_of_nonneg (by omega), w64 _ (by omega) (by omega)]
          refine c_region ?_
          iterate 4 (refine sq S ?_; clear S; intro a S)
          iterate 6 (refine gQ S ?_; clear S; intro a S)
          refine sq S ?_; clear S; intro a S
          refine wl_nil ?_
          refine xtn ?_
          refine c_cond S (fun h10 => ?_) (fun h10 => ?_)
          · refine c_seq ?_
            refine c_region ?_
            iterate 2 (refine sq S ?_; clear S; intro a S)
            refine wl_nil ?_
            refine xtn ?_
            refine c_ret ?_
            refine xtr ?_
            refine xbr ?_
            iterate 2 (refine xtr ?_)
            refine xbr ?_
            refine xtr ?_
            refine end2 S (fun _ => ?_)
            refine ⟨0, false, rfl, nofun, fun _ => ⟨rfl, fun m h0 h2 he => ?_⟩⟩
            obtain ⟨-, -, -, -, -, a6, -⟩ := num_text he h0 h2 hm
            have := val_pre t.text (k + 1)
            simp only [Bool.or_eq_true, decide_eq_true_eq] at h10
            by_cases hmd : most < (dg : Int)
            · omega
            · rcases h10 with h10 | h10
              · omega
              · rw [e1 hmd] at h10; omega
          · refine c_skip ?_
            refine xtn ?_
            refine c_region ?_
            refine sq S ?_; clear S; intro a S
            have hok : 10 * ((valF (t.text.take k) 0 : Nat) : Int) + dg ≤ most := by
              simp only [Bool.or_eq_false_iff, decide_eq_false_iff_not] at h10
              have := e1 h10.1
              rw [this] at h10
              omega
            refine sq S ?_; clear S; intro a S
            rw [w64 (10 * ((valF (t.text.take k) 0 : Nat) : Int)) (by omega) (by omega)] at S
            iterate 2 (refine sq S ?_; clear S; intro a S)
            rw [w64 (10 * ((valF (t.text.take k) 0 : Nat) : Int) + (dg : Int)) (by omega) (by omega), show 10 * ((valF (t.text.take k) 0 : Nat) : Int) + (dg : Int) = ((valF (t.text.take (k + 1)) 0 : Nat) : Int) from by omega] at S
            refine sq S ?_; clear S; intro a S
            refine wl_nil ?_
            refine xbn ?_
            refine xtn ?_
            refine c_region ?_
            iterate 3 (refine sq S ?_; clear S; intro a S)
            refine wl_nil ?_
            refine xtn ?_
            rw [w64 ((k : Int) + 1) (by omega) (by omega)] at S
            exact ⟨k + 1, S.uu, ⟨hkl, by omega⟩, S.sub _ _, by omega⟩
      · refine c_exit ?_
        iterate 2 (refine xte ?_)
        refine xbe ?_
        refine xtn ?_
        iterate 2 (refine c_seq ?_)
        have hkl : k = t.text.length := by simp at h5; omega
        subst hkl
        rw [List.take_length] at S hval
        refine c_drawD [(0, true), (2, true), (3, true), (1, false), (4, true)] [] S ?_; clear S; intro w S
        iterate 3 (refine dq S ?_; clear S; intro a S)
        refine dl ?_
        refine sr S (rdigits_c ((valF t.text 0 : Nat) : Int) _ (by omega)) ?_; clear S; rintro _ a w rfl S
        rw [show max ((valF t.text 0 : Nat) : Int) 0 = ((valF t.text 0 : Nat) : Int) from by omega] at S
        refine de S ?_
        refine dq S ?_; clear S; intro a S
        refine dn ?_
        refine xtn ?_
        refine c_cond S (fun h13 => ?_) (fun h13 => ?_)
        · refine c_seq ?_
          refine c_region ?_
          iterate 2 (refine sq S ?_; clear S; intro a S)
          refine wl_nil ?_
          refine xtn ?_
          refine c_ret ?_
          refine xtr ?_
          refine end2 S (fun _ => ?_)
          refine ⟨0, false, rfl, nofun, fun _ => ⟨rfl, fun m h0 h2 he => ?_⟩⟩
          obtain ⟨-, -, -, -, a5, a6, -⟩ := num_text he h0 h2 hm
          rw [a6, a5] at h13
          simp at h13
        · refine c_skip ?_
          refine xtn ?_
          refine c_seq ?_
          refine c_region ?_
          iterate 3 (refine sq S ?_; clear S; intro a S)
          refine wl_nil ?_
          refine xtn ?_
          refine c_ret ?_
          refine end2 S (fun _ => ?_)
          refine ⟨((valF t.text 0 : Nat) : Int), true, rfl, fun _ => ⟨⟨by omega, hval⟩, ?_⟩, nofun⟩
          have : Lib.itoa ((valF t.text 0 : Nat) : Int) = t.text := by simpa using h13
          rw [this]; exact hsm
end Go.Proofs.YtieeoakdkbackaaDoor

/- The reference's Unlist, List. -/
namespace Go.Proofs.YtieeoakdkbackaaDoor
open Go Go.Wk
set_option synthInstance.maxSize 100000
set_option synthInstance.maxHeartbeats 400000
set_option maxRecDepth 100000

theorem rlist_c (xs : List LTerm) (p : Option Addr) (c : Nat) (M : Nat → Prop) (w0 : World) (hl : xs.length ≤ 1000000) (hM : ∀ k, M k → k < w0.heap.size) (hx : Stable M w0 (LsF p 0 xs)) : Ret Tryd.prog 54 [.slice p xs.length c] w0 (fun _ => False) fun v w' => IsT M w' v (listT (xs.map LTerm.t)) := by
  refine enter Tryd.func54 rfl rfl (Wd.beginM (M := M) (fs := [LsF p 0 xs]) hM (by simpa using hx)) (fun a S => ?_)
  simp only [Tryd.ntmps54, List.length_cons, List.length_nil, Nat.reduceAdd, Nat.reduceSub, List.replicate_succ, List.replicate_zero, List.cons_append, List.nil_append] at S
  refine c_seq ?_
  refine c_region ?_
  refine sa S ?_; clear S; intro b2 a w S
  refine wl_nil ?_
  refine xtn ?_
  refine c_seq ?_
  refine c_region ?_
  refine sc S ?_; clear S; intro a w S
  refine sa S ?_; clear S; intro b3 a w S
  refine sw S ?_; clear S; intro a w S
  refine wl_nil ?_
  refine xtn ?_
  iterate 2 (refine c_seq ?_)
  refine c_region ?_
  iterate 3 (refine sq S ?_; clear S; intro a S)
  rw [w64 ((xs.length : Int) - 1) (by omega) (by omega)] at S
  refine sq S ?_; clear S; intro a S
  refine wl_nil ?_
  refine xtn ?_
  refine c_block ?_
  replace S := S.add (Φ := LtF (textL [])) (fun _ _ => by simp [LtIn, textL, LsIn, LtF])
  rw [show (xs.length : Int) - 1 = (xs.length : Int) - 1 - ((0 : Nat) : Int) from by omega] at S
  refine c_fore2 S (fun (j : Nat) (x : LTerm) uu => [(4, .int .i64 ((xs.length : Int) - 1 - (j : Nat))), (4, uu 9), (0, uu 10), (0, uu 11), (0, uu 12), (0, uu 13), (0, uu 14), (0, uu 15), (0, uu 16), (0, uu 17), (0, uu 18)]) (fun (j : Nat) (x : LTerm) => [Wk.box b3 24 x.cells, Wk.box b2 24 [.int .i64 0, .int .i64 0, .int .i64 0, .string ⟨#[]⟩, .slice none 0 0], ext M]) (fun (j : Nat) (x : LTerm) => [LtF x, LsF p 0 xs]) (fun (j : Nat) (x : LTerm) => j ≤ xs.length ∧ x.t = listT ((xs.map LTerm.t).drop (xs.length - j))) (fun (j : Nat) (x : LTerm) => xs.length - j) (0) (textL []) ?_ S.uu ?_ ?_
  · exact ⟨Nat.zero_le _, by rw [Nat.sub_zero, List.drop_of_length_le (by simp)]; rfl⟩
  · exact S.sub _ _
  · clear S; rintro j x uu a w ⟨hj, hrel⟩ S
    iterate 2 (refine c_seq ?_)
    refine c_region ?_
    iterate 2 (refine sq S ?_; clear S; intro a S)
    refine wl_nil ?_
    refine xtn ?_
    refine c_cond S (fun h3 => ?_) (fun h3 => ?_)
    · refine c_skip ?_
      refine xtn ?_
      refine c_seq ?_
      refine c_block ?_
      have hjl : j < xs.length := by simp at h3; omega
      have hK : KLt (xs.length - 1 - j) xs.length := ⟨by omega⟩
      rw [show (xs.length : Int) - 1 - (j : Nat) = ((xs.length - 1 - j : Nat) : Int) from by omega] at S
      refine c_drwe1 (.q 0 (.q 1 (.q 2 (.q 3 (.l 4 (.l 5 (.l 6 (.e)))))))) S (fun (y : LTerm) uu => [(13, uu 13), (0, uu 14), (0, uu 15), (0, uu 16), (0, uu 17), (0, uu 18)]) [Wk.box b2 24 [.int .i64 0, .int .i64 0, .int .i64 0, .string ⟨#[]⟩, .slice none 0 0], ext M] (fun (y : LTerm) => [Wk.box b3 24 y.cells, Wk.box b2 24 [.int .i64 0, .int .i64 0, .int .i64 0, .string ⟨#[]⟩, .slice none 0 0], ext M]) (fun (y : LTerm) => [LtF y, LsF p 0 xs]) (fun (y : LTerm) => y.t = .pair (nthL xs (xs.length - 1 - j)).t x.t) ?_ ?_
      · intro w S
        iterate 4 (refine tq S ?_; clear S; intro a S)
        refine tl ?_
        refine sq S ?_; clear S; intro a S
        refine te S ?_
        refine tl ?_
        refine sr S (rpair_c (nthL xs (xs.length - 1 - j)) x _ w (foots_lt S) (S.t _) (S.t _)) ?_; clear S; rintro _ a w ⟨r, rfl, hr, hrf⟩ S
        replace S := S.add hrf
        refine te S ?_
        refine tl ?_
        refine sw S ?_; clear S; intro a w S
        refine te S ?_
        refine tn ?_
        exact ⟨r, S.uu, hr, S.sub _ _⟩
      clear S; rintro y uu a w hr S
      refine xbn ?_
      refine xtn ?_
      refine c_region ?_
      iterate 2 (refine sq S ?_; clear S; intro a S)
      rw [w64 _ (by omega) (by omega), show ((xs.length - 1 - j : Nat) : Int) - 1 = (xs.length : Int) - 1 - ((j + 1 : Nat) : Int) from by omega] at S
      refine sq S ?_; clear S; intro a S
      refine wl_nil ?_
      refine xtn ?_
      refine ⟨j + 1, y, S.uu, ⟨hjl, ?_⟩, S.sub _ _, by omega⟩
      rw [hr, hrel, show xs.length - j = xs.length - (j + 1) + 1 from by omega]
      have h5 : xs.length - (j + 1) < (xs.map LTerm.t).length := by simp; omega
      rw [List.drop_eq_getElem_cons h5, listT]
      simp [nthL, show xs.length - 1 - j = xs.length - (j + 1) from by omega, show xs.length - (j + 1) < xs.length from by omega]
    · refine c_exit ?_
      iterate 2 (refine xte ?_)
      refine xbe ?_
      refine xtn ?_
      refine c_seq ?_
      refine c_region ?_
      refine sq S ?_; clear S; intro a S
      refine sw S ?_; clear S; intro a w S
      refine wl_nil ?_
      refine xtn ?_
      refine c_ret ?_
      have hjl : j = xs.length := by simp at h3; omega
      rw [hjl, Nat.sub_self, List.drop_zero] at hrel
      have hlat := S.laterT (M := M) x
      refine end1 S (fun _ => ?_)
      exact ⟨x, rfl, hrel, hlat⟩
mutual
theorem dpt_cnt : ∀ t : Term, dpt t ≤ cnt t
  | .mk k u n s ks => by have := dpt_cntL ks; rw [dpt, cnt]; omega
theorem dpt_cntL : ∀ ts : List Term, dptL ts ≤ cntL ts
  | [] => by simp [dptL]
  | t :: ts => by have := dpt_cnt t; have := dpt_cntL ts; rw [dptL, cntL]; omega
end
theorem good_dpt {t : Term} (h : Good t) : dpt t ≤ 1200 := Nat.le_trans (dpt_cnt t) (good_le h)
theorem dpt_kid {t : LTerm} {k : Nat} (h : k < t.kids.length) : dpt (nthL t.kids k).t + 1 ≤ dpt t.t := by
  rw [t.t_eq, dpt]
  have := dptL_le.1 (Nat.le_refl (dptL (t.kids.map LTerm.t))) (nthL t.kids k).t (List.mem_map.2 ⟨_, nth_mem h, rfl⟩)
  omega
def UnR (M : Nat → Prop) (t : Term) (v : Value) (w : World) : Prop := ∃ (p : Option Addr) (c : Nat) (os : List LTerm) (b : Bool), v = .tuple ⟨[.slice p os.length c, .bool b]⟩ ∧ Stable M w (LsF p 0 os) ∧ os.length + 1 ≤ dpt t ∧ (Good t → (b = true → t = listT (os.map LTerm.t)) ∧ (b = false → os = [] ∧ ∀ l, t ≠ listT l))
theorem dpt_pos (t : Term) : 1 ≤ dpt t := by cases t; rw [dpt]; omega
theorem runlist_all (N : Nat) : ∀ (t : LTerm) (M : Nat → Prop) (w0 : World), SizeOf.sizeOf t < N → dpt t.t ≤ 100000 → (∀ k, M k → k < w0.heap.size) → Stable M w0 (LtF t) →
    Ret Tryd.prog 44 [vL t] w0 (fun _ => False) fun v w' => UnR M t.t v w' := by
  induction N with
  | zero => intro t _ _ h; omega
  | succ N ih =>
  intro t M w0 hN hd hM hf
  have hdp := dpt_pos t.t
  refine enter Tryd.func44 rfl rfl (Wd.beginM (M := M) (fs := [LtF t]) hM (by simpa using hf)) (fun a S => ?_)
  simp only [Tryd.ntmps44, List.length_cons, List.length_nil, Nat.reduceAdd, Nat.reduceSub, List.replicate_succ, List.replicate_zero, List.cons_append, List.nil_append] at S
  refine c_seq ?_
  refine c_region ?_
  refine sa S ?_; clear S; intro b1 a w S
  iterate 2 (refine sq S ?_; clear S; intro a S)
  refine wl_nil ?_
  refine xtn ?_
  iterate 2 (refine c_seq ?_)
  refine c_region ?_
  iterate 4 (refine sq S ?_; clear S; intro a S)
  iterate 3 (refine gQ S ?_; clear S; intro a S)
  refine sq S ?_; clear S; intro a S
  refine wl_nil ?_
  refine xtn ?_
  refine c_cond S (fun h1 => ?_) (fun h1 => ?_)
  · refine c_seq ?_
    refine c_region ?_
    iterate 2 (refine sq S ?_; clear S; intro a S)
    refine wl_nil ?_
    refine xtn ?_
    refine c_ret ?_
    refine xtr ?_
    have hk : t.kind = 1 ∧ t.text = [] := by simpa using h1
    have ht : Good t.t → t.t = textT [] := fun hg => by
      rw [t.t_eq] at hg ⊢
      have hp := plain_shape (goodP hg)
      rw [hk.1] at hp
      rcases hp with q | q | q | q | q | q | q
      · obtain ⟨-, q1, q2, -, q3⟩ := q
        rw [hk.1, hk.2, q1, q2, List.eq_nil_of_length_eq_zero q3]; rfl
      all_goals omega
    refine end2 S (fun _ => ?_)
    exact ⟨none, 0, [], true, rfl, fun w' _ => by simp [LsF, LsIn], by simp; omega, fun hg => ⟨fun _ => ht hg, nofun⟩⟩
  · refine c_skip ?_
    refine xtn ?_
    iterate 2 (refine c_seq ?_)
    refine c_region ?_
    iterate 4 (refine sq S ?_; clear S; intro a S)
    iterate 4 (refine gQ S ?_; clear S; intro a S)
    refine sq S ?_; clear S; intro a S
    refine wl_nil ?_
    refine xtn ?_
    refine c_cond S (fun h3 => ?_) (fun h3 => ?_)
    · refine c_seq ?_
      refine c_region ?_
      iterate 2 (refine sq S ?_; clear S; intro a S)
      refine wl_nil ?_
      refine xtn ?_
      refine c_ret ?_
      refine xtr ?_
      refine end2 S (fun _ => ?_)
      refine ⟨none, 0, [], false, rfl, fun w' _ => by simp [LsF, LsIn], by simp; omega, fun _ => ⟨nofun, fun _ => ⟨rfl, fun l he => ?_⟩⟩⟩
      cases l with
      | nil => exact absurd (text_of he) (fun q => by simp [q.1, q.2.1] at h1)
      | cons x l =>
        rw [t.t_eq] at he
        simp only [listT, Term.pair, Term.mk.injEq] at he
        have := congrArg List.length he.2.2.2.2
        simp at this
        simp [he.1, this] at h3
    · refine c_skip ?_
      refine xtn ?_
      refine c_seq ?_
      have hk : t.kind = 4 ∧ t.kids.length = 2 := by simp at h3; omega
      have hK0 : KLt 0 t.kids.length := ⟨by omega⟩
      have hK1 : KLt 1 t.kids.length := ⟨by omega⟩
      have hd1 := dpt_kid (t := t) (k := 1) (by omega)
      have hpr : Good t.t → Good (nthL t.kids 1).t ∧ t.t = .pair (nthL t.kids 0).t (nthL t.kids 1).t := fun hg => by
        obtain ⟨-, hpr⟩ := good_pr hg hk.1
        exact ⟨by rw [hpr] at hg; exact good_kid hg (by simp), hpr⟩
      refine c_region ?_
      iterate 4 (refine sq S ?_; clear S; intro a S)
      refine sr S (ih (nthL t.kids 1) _ w (by have := LTerm.kid_lt (nth_mem (show 1 < t.kids.length by omega)); omega) (by omega) (foots_lt S) (S.t _)) ?_; clear S; rintro _ a w ⟨p, c, us, b, rfl, hus, hul, hb⟩ S
      replace S := S.add hus
      iterate 5 (refine sq S ?_; clear S; intro a S)
      refine wl_nil ?_
      refine xtn ?_
      iterate 2 (refine c_seq ?_)
      refine c_region ?_
      iterate 2 (refine sq S ?_; clear S; intro a S)
      refine wl_nil ?_
      refine xtn ?_
      refine c_cond S (fun h6 => ?_) (fun h6 => ?_)
      · refine c_seq ?_
        refine c_region ?_
        iterate 2 (refine sq S ?_; clear S; intro a S)
        refine wl_nil ?_
        refine xtn ?_
        refine c_ret ?_
        refine xtr ?_
        have hbf : b = false := by simpa using h6
        refine end2 S (fun _ => ?_)
        refine ⟨none, 0, [], false, rfl, fun w' _ => by simp [LsF, LsIn], by simp; omega, fun hg => ⟨nofun, fun _ => ⟨rfl, fun l he => ?_⟩⟩⟩
        obtain ⟨hg1, hpr⟩ := hpr hg
        cases l with
        | nil => exact absurd (text_of he).1 (by omega)
        | cons x l =>
          rw [hpr] at he
          simp only [listT, Term.pair, Term.mk.injEq, List.cons.injEq, and_true, true_and] at he
          exact ((hb hg1).2 hbf).2 l he.2
      · refine c_skip ?_
        refine xtn ?_
        refine c_seq ?_
        refine c_region ?_
        iterate 4 (refine sq S ?_; clear S; intro a S)
        refine sn S ?_; clear S; intro b39 a w S
        refine sq S ?_; clear S; intro a S
        refine wl_nil ?_
        refine xtn ?_
        iterate 2 (refine c_seq ?_)
        refine c_region ?_
        refine sq S ?_; clear S; intro a S
        refine wl_nil ?_
        refine xtn ?_
        refine c_block ?_
        have hbt : b = true := by simpa using h6
        replace S := S.boxRow b39 5 1 rfl (by simp [maxLen])
        rw [show ([Value.int .i64 (nthL t.kids 0).kind, .int .i64 (nthL t.kids 0).user, .int .i64 (nthL t.kids 0).num, str (nthL t.kids 0).text, .slice (nthL t.kids 0).p (nthL t.kids 0).kids.length (nthL t.kids 0).cap] : List Value) = encL [nthL t.kids 0] from by simp [encL, Enc.cells, LTerm.cells]] at S
        refine c_fore4 S (fun (k : Nat) (os : List LTerm) (po : Option Addr) (co : Nat) uu => [(6, .slice po os.length co), (0, .int .i64 (k : Nat)), (32, uu 40), (0, uu 41), (0, uu 42), (0, uu 43), (0, uu 44), (0, uu 45), (0, uu 46), (0, uu 47), (0, uu 48), (0, uu 49), (0, uu 50), (0, uu 51), (0, uu 52)]) (fun (k : Nat) (os : List LTerm) (po : Option Addr) (co : Nat) => [Wk.row 24 5 po os.length co (encL os), Wk.box b1 24 t.cells, ext M]) (fun (k : Nat) (os : List LTerm) (po : Option Addr) (co : Nat) => [AllI os, LsF p 0 us, LtF t]) (fun (k : Nat) (os : List LTerm) (po : Option Addr) (co : Nat) => k ≤ us.length ∧ os = nthL t.kids 0 :: us.take k) (fun (k : Nat) (os : List LTerm) (po : Option Addr) (co : Nat) => us.length - k) (0) ([nthL t.kids 0]) (some ⟨b39, 0, none⟩) (1) ?_ S.uu ?_ ?_
        · exact ⟨Nat.zero_le _, rfl⟩
        · have h1t := S.t (nthL t.kids 0)
          exact (S.add (Φ := AllI (α := LTerm) [nthL t.kids 0]) (fun w' hw' x hx => by obtain rfl := List.mem_singleton.1 hx; exact h1t w' hw')).sub _ _
        · clear S; rintro k os po co uu a w ⟨hk2, hos⟩ S
          iterate 2 (refine c_seq ?_)
          refine c_region ?_
          iterate 4 (refine sq S ?_; clear S; intro a S)
          refine wl_nil ?_
          refine xtn ?_
          refine c_cond S (fun h10 => ?_) (fun h10 => ?_)
          · refine c_skip ?_
            refine xtn ?_
            refine c_seq ?_
            refine c_block ?_
            have hkl : k < us.length := by simp at h10; omega
            have hKu : KLt k us.length := ⟨hkl⟩
            have hol : os.length = k + 1 := by rw [hos]; simp; omega
            refine c_region ?_
            iterate 5 (refine sq S ?_; clear S; intro a S)
            refine sn S ?_; clear S; intro b51 a w S
            refine sap S (by simp [maxLen]; omega) (by omega) ?_; clear S; rintro p12 c12 a w - S
            rw [show encL os ++ [Value.int .i64 (nthL us k).kind, .int .i64 (nthL us k).user, .int .i64 (nthL us k).num, str (nthL us k).text, .slice (nthL us k).p (nthL us k).kids.length (nthL us k).cap] = encL (os ++ [nthL us k]) from by rw [encL_append]; simp [encL, Enc.cells, LTerm.cells], show os.length + 1 = (os ++ [nthL us k]).length from by simp] at S
            refine sq S ?_; clear S; intro a S
            refine wl_nil ?_
            refine xbn ?_
            refine xtn ?_
            refine c_region ?_
            iterate 3 (refine sq S ?_; clear S; intro a S)
            refine wl_nil ?_
            refine xtn ?_
            rw [w64 ((k : Int) + 1) (by omega) (by omega)] at S
            have h1 := S.wd.facts (AllI os) (by simp)
            have h2 := S.t (nthL us k)
            replace S := S.add (AllI.snoc (r := nthL us k) h1 h2)
            refine ⟨k + 1, os ++ [nthL us k], p12, c12, S.uu, ⟨hkl, ?_⟩, S.sub _ _, by omega⟩
            rw [hos, List.cons_append]
            congr 1
            exact (nthG_take hkl).symm
          · refine c_exit ?_
            iterate 2 (refine xte ?_)
            refine xbe ?_
            refine xtn ?_
            refine c_seq ?_
            refine c_region ?_
            iterate 3 (refine sq S ?_; clear S; intro a S)
            refine wl_nil ?_
            refine xtn ?_
            refine c_ret ?_
            have hkl : k = us.length := by simp at h10; omega
            rw [hkl, List.take_length] at hos
            have hrow := S.row po os.length
            have hnew := S.rowNew po os.length
            have hall := S.laterFact (Φ := AllI os) (by simp)
            refine end2 S (fun _ => ?_)
            refine ⟨po, co, os, true, rfl, ?_, by rw [hos]; simp; omega, fun hg => ⟨fun _ => ?_, nofun⟩⟩
            · exact (gl_own hrow hall (fun ad h hm => (hnew ad h).elim (fun h => h.elim) (fun h2 => by have := hM _ hm; omega))).imp fun _ h => gl_ls h
            · obtain ⟨hg1, hpr⟩ := hpr hg
              rw [hpr, (hb hg1).1 hbt, hos]; rfl
theorem runlist_c (t : LTerm) (hd : dpt t.t ≤ 100000) (M : Nat → Prop) (w0 : World) (hM : ∀ k, M k → k < w0.heap.size) (hf : Stable M w0 (LtF t)) :
    Ret Tryd.prog 44 [vL t] w0 (fun _ => False) fun v w' => UnR M t.t v w' := runlist_all _ t M w0 (Nat.lt_succ_self _) hd hM hf
end Go.Proofs.YtieeoakdkbackaaDoor

/- A guarded call that makes a term. -/
namespace Go.Wk
open Go
section
variable {P : Program} {r : Option Nat} {ops : Array Oper} {Q : Exit → Act → World → Prop} {w0 : World} {M0 : Nat → Prop} {ds : List Deferred} {a : Act} {w : World} {l : List Value} {bs : List Item} {fs : List (World → Prop)}
  {d : Option Nat} {ty : TypeId} {pos : String} {af : Array Edge} {rest : List Oper} {G : Value} {f : Nat} {x : Operand} {xs : List Operand} {args : List Value} {ts : Array TypeId} {j g : Nat} {pol : Bool} {cs : List Bool}
theorem gCT {T : Term} {l' : LTerm → List Value} {v' : LTerm → Value} [hg : GSlot ops j g] [hn : Nth l g G] [hc : Conds G pol cs] [EntF P f] [he : CallTo ⟨cs, l⟩ x xs f args] [hv : ∀ q, GifV cs (vL q) (v' q)] [hp : ∀ q, PutO l d (v' q) (l' q)] (S : St w0 M0 ds a w l bs fs)
    (hcall : (∀ c ∈ cs, c = true) → Ret P f args w (fun _ => False) fun v w' => IsT (foots bs) w' v T)
    (K : ∀ q a w', ((∀ c ∈ cs, c = true) → q.t = T) → Stable (foots bs) w' (LtF q) → St w0 M0 ds a w' (l' q) bs fs → WL P r ops Q rest a w') : WL P r ops Q (⟨d, .call { callee := .value x, args := xs.toArray, argTypes := ts }, ty, pos, af, some (j, pol)⟩ :: rest) a w := by
  have hw := wanted_iff (ops := ops) (d := d) (op := .call { callee := .value x, args := xs.toArray, argTypes := ts }) (ty := ty) (pos := pos) (af := af) (pol := pol) S hg.eq
  refine wl_guard (fun ht => ?_) (fun hf => ?_)
  · have hall := hw.1 ht
    have : CallTo ⟨[], l⟩ x xs f args := ⟨by
      obtain ⟨fi, ca, vs, h0, h1, h2⟩ := he.ex
      exact ⟨fi, ca, vs, ⟨fun _ ds => h0.eq hall ds⟩, ⟨fun _ ds => h1.eq hall ds⟩, h2⟩⟩
    refine cv_any S (hcall hall) ?_
    rintro e w' ⟨v, rfl, ha, q, rfl, hq, hqf⟩
    have e1 : v' q = vL q := by rw [(hv q).eq, if_pos hall]
    have S' := S.put (d := d) (v := v' q) (l' := l' q)
    rw [e1] at S'
    exact ⟨vL q, rfl, K q _ w' (fun _ => hq) hqf ⟨S'.slots, S'.defers, S'.wd.step ha⟩⟩
  · have hall : ¬ ∀ c ∈ cs, c = true := fun h => by rw [hw.2 h] at hf; cases hf
    have e := (hv zeroL).eq
    rw [if_neg hall] at e
    have S' := S.put (d := d) (v := v' zeroL) (l' := l' zeroL)
    rw [e] at S'
    exact K zeroL _ w (fun h => absurd h hall) (fun _ _ => zeroL_in _) S'
/-- a string as bytes. -/
theorem sbyt {t t' e : TypeId} {y : Operand} {s : List UInt8} {l' : Option Addr → Nat → List Value} [hx : Ev ⟨[], l⟩ y (str s)] [h1 : Und P t .string] [h2 : Und P t' (.slice e)] [h3 : Und P e (.int .u8)] [hp : ∀ q c, PutO l d (.slice q s.length c) (l' q c)] (S : St w0 M0 ds a w l bs fs)
    (K : ∀ q c a w, St w0 M0 ds a w (l' q c) bs (GlF q s :: fs) → WL P r ops Q rest a w) : WL P r ops Q (⟨d, .convert t t' y, ty, pos, af, none⟩ :: rest) a w := by
  have hrun : (xop a.eval (.convert t t' y) ty).run P w = .ok (.value (.slice (some ⟨w.heap.size, 0, none⟩) s.length (grownCap w s.length 0 e))) (Lib.bytesWorld w e ⟨s.toArray⟩) := by
    have h := Lib.run_convert_string_bytes (P := P) w t t' e ⟨s.toArray⟩ h1.eq h2.eq h3.eq
    have e1 : (⟨s.toArray⟩ : ByteArray).size = s.length := by simp [ByteArray.size]
    rw [e1] at h
    have hy : a.eval y = str s := S.fr.ev
    simp [xop, execOp, Sem.run_bind, hy, str, h]
  have hlt : ¬ foots bs w.heap.size := fun h => Nat.lt_irrefl _ (foots_lt S _ h)
  refine wl_plain rfl ?_
  rw [semAt_nd rfl]
  simp only [hrun, Oper.uponIn]
  have := hp (some ⟨w.heap.size, 0, none⟩) (grownCap w s.length 0 e)
  have S' := S.put (d := d) (v := .slice (some ⟨w.heap.size, 0, none⟩) s.length (grownCap w s.length 0 e)) (l' := l' (some ⟨w.heap.size, 0, none⟩) (grownCap w s.length 0 e))
  have ha : Agree (fun _ => False) w (Lib.bytesWorld w e ⟨s.toArray⟩) := ⟨rfl, rfl, rfl, by rw [Lib.bytesWorld_size]; omega, fun k hk _ => Lib.bytesWorld_at_old w e _ k hk⟩
  have hg : SlF (some ⟨w.heap.size, 0, none⟩) (encL s) (Lib.bytesWorld w e ⟨s.toArray⟩) := ⟨nofun, fun ad had j u hj => by
    obtain rfl := Option.some.inj had
    have hjl : j < s.length := by
      rcases Nat.lt_or_ge j s.length with h | h
      · exact h
      · rw [List.getElem?_eq_none (by rw [encL_len]; simpa [Enc.sz] using h)] at hj; cases hj
    have := Lib.bytesWorld_cell w e ⟨s.toArray⟩ j (by simpa [ByteArray.size] using hjl)
    rw [encB_map] at hj
    simp only [List.map_map, List.getElem?_map, List.getElem?_eq_getElem hjl, Option.map_some, Option.some.injEq] at hj
    rw [← hj]
    have e2 : (⟨w.heap.size, 0, none⟩ : Addr).add j = ⟨w.heap.size, j, none⟩ := by unfold Addr.add; split <;> simp_all
    rw [e2]
    simpa [hjl] using this⟩
  have S2 : St w0 M0 ds _ _ _ bs fs := ⟨S'.slots, S'.defers, S'.wd.step ha⟩
  exact K _ _ _ _ (S2.add (Φ := GlF (some ⟨w.heap.size, 0, none⟩) s) (fun w' hw' => ⟨(SlF.stable hg (fun ad had => by obtain rfl := Option.some.inj had; exact hlt)) w' hw', fun _ _ => trivial⟩))
end
end Go.Wk

/- Package safehouseref17. -/
namespace Go.Proofs.YtieeoakdkbackaaDoor
open Go Go.Wk
set_option synthInstance.maxSize 100000
set_option synthInstance.maxHeartbeats 400000
set_option maxRecDepth 100000

instance {s : List UInt8} {bs fs} [h : LeC s.length 1000000] : CallV Tryd.prog 50 [str s] bs fs (.bool (nameB s)) := ⟨fun w _ => rname_c s h.le w⟩
theorem right_goodD {t : Term} : rightF t = true ↔ Good t := by rw [← check_zero]; exact good_check
theorem rright17_c (d : LDat) (hl : d.name.length ≤ 1000000) (w0 : World) (hf : Stable (fun _ => False) w0 (LtF d.locked)) : Ret Tryd.prog 16 [vDat d] w0 (fun _ => False) fun v _ => v = .bool (datB d.d) := by
  have hL : LeC d.name.length 1000000 := ⟨hl⟩
  refine enter Tryd.func16 rfl rfl (Wd.begin (fs := [LtF d.locked]) (by simpa using hf)) (fun a S => ?_)
  simp only [Tryd.ntmps16, List.length_cons, List.length_nil, Nat.reduceAdd, Nat.reduceSub, List.replicate_succ, List.replicate_zero, List.cons_append, List.nil_append] at S
  refine c_seq ?_
  refine c_region ?_
  refine sa S ?_; clear S; intro b1 a w S
  refine sq S ?_; clear S; intro a S
  refine wl_nil ?_
  refine xtn ?_
  refine c_seq ?_
  refine c_region ?_
  iterate 2 (refine sq S ?_; clear S; intro a S)
  refine sc S ?_; clear S; intro a w S
  refine sq S ?_; clear S; intro a S
  iterate 3 (refine gQ S ?_; clear S; intro a S)
  iterate 2 (refine sq S ?_; clear S; intro a S)
  iterate 3 (refine gQ S ?_; clear S; intro a S)
  iterate 2 (refine sq S ?_; clear S; intro a S)
  iterate 3 (refine gQ S ?_; clear S; intro a S)
  iterate 2 (refine sq S ?_; clear S; intro a S)
  iterate 3 (refine gQ S ?_; clear S; intro a S)
  iterate 2 (refine sq S ?_; clear S; intro a S)
  iterate 3 (refine gQ S ?_; clear S; intro a S)
  iterate 2 (refine sq S ?_; clear S; intro a S)
  iterate 3 (refine gQ S ?_; clear S; intro a S)
  iterate 2 (refine sq S ?_; clear S; intro a S)
  iterate 4 (refine gQ S ?_; clear S; intro a S)
  iterate 2 (refine sq S ?_; clear S; intro a S)
  iterate 2 (refine gQ S ?_; clear S; intro a S)
  refine gC S ?_; clear S; intro a w S
  iterate 2 (refine sq S ?_; clear S; intro a S)
  refine wl_nil ?_
  refine xtn ?_
  refine c_ret ?_
  refine end1 S (fun _ => ?_)
  congr 1
  rw [Bool.eq_iff_iff, datB_iff]
  simp only [LDat.d, Bool.and_eq_true, decide_eq_true_eq, kind_t, check_zero, and_assoc]
  constructor
  · rintro ⟨a1, a2, a3, a4, a5, a6, a7, a8, a9⟩; exact ⟨a1, a2, a3, a4, a5, a6, a7, a9, a8⟩
  · rintro ⟨a1, a2, a3, a4, a5, a6, a7, a9, a8⟩; exact ⟨a1, a2, a3, a4, a5, a6, a7, a8, a9⟩
instance rright17I {d : LDat} {bs fs} [h : HasT fs d.locked] [h2 : LeC d.name.length 1000000] : CallV Tryd.prog 16 [vDat d] bs fs (.bool (datB d.d)) := ⟨fun w m => rright17_c d h2.le w (m.t0 _)⟩
theorem rsame17_c (d e : LDat) (w0 : World) (hd : Stable (fun _ => False) w0 (LtF d.locked)) (he : Stable (fun _ => False) w0 (LtF e.locked)) : Ret Tryd.prog 11 [vDat d, vDat e] w0 (fun _ => False) fun v _ => v = .bool (dsameB d.d e.d) := by
  refine enter Tryd.func11 rfl rfl (Wd.begin (fs := [LtF d.locked, LtF e.locked]) (by simp; exact ⟨hd, he⟩)) (fun a S => ?_)
  simp only [Tryd.ntmps11, List.length_cons, List.length_nil, Nat.reduceAdd, Nat.reduceSub, List.replicate_succ, List.replicate_zero, List.cons_append, List.nil_append] at S
  refine c_seq ?_
  refine c_region ?_
  refine sa S ?_; clear S; intro b2 a w S
  refine sa S ?_; clear S; intro b3 a w S
  refine sq S ?_; clear S; intro a S
  refine wl_nil ?_
  refine xtn ?_
  refine c_seq ?_
  refine c_region ?_
  iterate 6 (refine sq S ?_; clear S; intro a S)
  iterate 5 (refine gQ S ?_; clear S; intro a S)
  iterate 2 (refine sq S ?_; clear S; intro a S)
  iterate 5 (refine gQ S ?_; clear S; intro a S)
  iterate 2 (refine sq S ?_; clear S; intro a S)
  iterate 5 (refine gQ S ?_; clear S; intro a S)
  iterate 2 (refine sq S ?_; clear S; intro a S)
  iterate 4 (refine gQ S ?_; clear S; intro a S)
  refine gC S ?_; clear S; intro a w S
  iterate 2 (refine sq S ?_; clear S; intro a S)
  refine wl_nil ?_
  refine xtn ?_
  refine c_ret ?_
  refine end1 S (fun _ => ?_)
  congr 1
  rw [Bool.eq_iff_iff, dsameB_iff]
  simp only [LDat.d, Bool.and_eq_true, decide_eq_true_eq, sameF_iff, Dat.mk.injEq, and_assoc]
instance rsame17I {d e : LDat} {bs fs} [h : HasT fs d.locked] [h2 : HasT fs e.locked] : CallV Tryd.prog 11 [vDat d, vDat e] bs fs (.bool (dsameB d.d e.d)) := ⟨fun w m => rsame17_c d e w (m.t0 _) (m.t0 _)⟩
theorem rterm17_c (d : LDat) (leaf : Int) (hd : datB d.d = true) (M : Nat → Prop) (w0 : World) (hM : ∀ k, M k → k < w0.heap.size) (hf : Stable M w0 (LtF d.locked)) : Ret Tryd.prog 18 [vDat d, .int .i64 leaf] w0 (fun _ => False) fun v w' => IsT M w' v (dataT d.d leaf) := by
  obtain ⟨hdn, hd1, hd2, hd3, hd4, hd5, hd6, hd7, hd8⟩ := datB_iff.1 hd
  simp only [LDat.d] at hd1 hd2 hd3 hd4 hd5 hd6
  have hmv : max d.ver 0 = d.ver := by omega
  have hme : max d.epoch 0 = d.epoch := by omega
  refine enter Tryd.func18 rfl rfl (Wd.beginM (M := M) (fs := [LtF d.locked]) hM (by simpa using hf)) (fun a S => ?_)
  simp only [Tryd.ntmps18, List.length_cons, List.length_nil, Nat.reduceAdd, Nat.reduceSub, List.replicate_succ, List.replicate_zero, List.cons_append, List.nil_append] at S
  refine c_seq ?_
  refine c_region ?_
  refine sa S ?_; clear S; intro b2 a w S
  refine sa S ?_; clear S; intro b4 a w S
  refine wl_nil ?_
  refine xtn ?_
  refine c_seq ?_
  refine c_drawD [(1, true), (2, true), (4, true), (5, true), (8, true), (9, true), (12, true), (13, true), (0, false), (3, false), (6, false), (7, false), (10, false), (11, false), (14, false), (15, true)] [] S ?_; clear S; intro w S
  iterate 8 (refine dq S ?_; clear S; intro a S)
  refine dl ?_
  refine sc S ?_; clear S; intro a w S
  refine de S ?_
  refine dl ?_
  refine sc S ?_; clear S; intro a w S
  refine de S ?_
  refine dl ?_
  refine sr S (rdigits_c d.ver _ (by omega)) ?_; clear S; rintro _ a w rfl S
  rw [hmv] at S
  refine de S ?_
  refine dl ?_
  refine sc S ?_; clear S; intro a w S
  refine de S ?_
  refine dl ?_
  refine sr S (rdigits_c d.epoch _ (by omega)) ?_; clear S; rintro _ a w rfl S
  rw [hme] at S
  refine de S ?_
  refine dl ?_
  refine sc S ?_; clear S; intro a w S
  refine de S ?_
  refine dl ?_
  refine sn S ?_; clear S; intro b20 a w S
  refine de S ?_
  refine dq S ?_; clear S; intro a S
  refine dn ?_
  refine xtn ?_
  refine c_seq ?_
  replace S := (((S.add (Φ := LtF (textL dataS)) (fun _ _ => by simp [LtIn, textL, LsIn, LtF])).add (Φ := LtF (textL d.name)) (fun _ _ => by simp [LtIn, textL, LsIn, LtF])).add (Φ := LtF (textL (Lib.itoa d.ver))) (fun _ _ => by simp [LtIn, textL, LsIn, LtF])).add (Φ := LtF (textL (Lib.itoa d.epoch))) (fun _ _ => by simp [LtIn, textL, LsIn, LtF])
  replace S := S.frontLs b20 [textL dataS, textL d.name, textL (Lib.itoa d.ver), textL (Lib.itoa d.epoch), d.locked] rfl (fun t ht => by simp at ht; rcases ht with rfl | rfl | rfl | rfl | rfl <;> exact S.t _)
  refine c_drawD [(0, true), (1, true), (2, true), (3, true), (4, false), (5, false), (6, true), (7, false)] [b4] S ?_; clear S; intro w S
  iterate 4 (refine dq S ?_; clear S; intro a S)
  refine dl ?_
  refine sr S (rlist_c [textL dataS, textL d.name, textL (Lib.itoa d.ver), textL (Lib.itoa d.epoch), d.locked] (some ⟨b20, 0, none⟩) 5 _ w (by simp) (foots_lt S) (S.mem.fact (LsF (some ⟨b20, 0, none⟩) 0 [textL dataS, textL d.name, textL (Lib.itoa d.ver), textL (Lib.itoa d.epoch), d.locked]))) ?_; clear S; rintro _ a w ⟨q, rfl, hq, hqf⟩ S
  replace S := S.add hqf
  refine de S ?_
  refine dl ?_
  refine sn S ?_; clear S; intro b26 a w S
  refine de S ?_
  refine dq S ?_; clear S; intro a S
  refine dl ?_
  refine sw S ?_; clear S; intro a w S
  refine de S ?_
  refine dn ?_
  refine xtn ?_
  refine c_ret ?_
  have hlat := S.laterT (M := M) q
  refine end1 S (fun _ => ?_)
  refine ⟨.mk 8 d.writer leaf [] (some ⟨b26, 0, none⟩) 1 [q], rfl, ?_, fun w' hw' => ?_⟩
  · show Term.mk 8 d.writer leaf [] [q.t] = _
    rw [hq]; rfl
  · have h1 := hlat w' hw'
    exact ⟨by simp, by simp [maxLen], LsIn.of_block [q] (S.laterBox hw' b26) (fun x hx => by obtain rfl := List.mem_singleton.1 hx; exact h1)⟩
def DRead17 (M : Nat → Prop) (T : Term) (v : Value) (w : World) : Prop := ∃ (d : LDat) (b : Bool), v = .tuple ⟨[vDat d, .bool b]⟩ ∧ Stable M w (LtF d.locked) ∧
  (b = true → ∃ leaf, datB d.d = true ∧ T = dataT d.d leaf ∧ Good T) ∧ (b = false → ∀ d leaf, datB d = true → T = dataT d leaf → ¬ Good T)
theorem rread17_c (t : LTerm) (M : Nat → Prop) (w0 : World) (hM : ∀ k, M k → k < w0.heap.size) (hf : Stable M w0 (LtF t)) : Ret Tryd.prog 10 [vL t] w0 (fun _ => False) fun v w' => DRead17 M t.t v w' := by
  refine enter Tryd.func10 rfl rfl (Wd.beginM (M := M) (fs := [LtF t]) hM (by simpa using hf)) (fun a S => ?_)
  simp only [Tryd.ntmps10, List.length_cons, List.length_nil, Nat.reduceAdd, Nat.reduceSub, List.replicate_succ, List.replicate_zero, List.cons_append, List.nil_append] at S
  refine c_seq ?_
  refine c_region ?_
  refine sa S ?_; clear S; intro b1 a w S
  refine sa S ?_; clear S; intro b2 a w S
  refine sq S ?_; clear S; intro a S
  refine wl_nil ?_
  refine xtn ?_
  refine c_seq ?_
  refine c_region ?_
  refine sq S ?_; clear S; intro a S
  refine sa S ?_; clear S; intro b4 a w S
  refine sw S ?_; clear S; intro a w S
  refine wl_nil ?_
  refine xtn ?_
  iterate 2 (refine c_seq ?_)
  refine c_region ?_
  refine sq S ?_; clear S; intro a S
  refine sc S ?_; clear S; intro a w S
  iterate 2 (refine sq S ?_; clear S; intro a S)
  iterate 3 (refine gQ S ?_; clear S; intro a S)
  refine sq S ?_; clear S; intro a S
  refine wl_nil ?_
  refine xtn ?_
  refine c_cond S (fun h2 => ?_) (fun h2 => ?_)
  · refine c_seq ?_
    refine c_region ?_
    refine sq S ?_; clear S; intro a S
    refine sw S ?_; clear S; intro a w S
    refine sq S ?_; clear S; intro a S
    refine wl_nil ?_
    refine xtn ?_
    refine c_ret ?_
    refine xtr ?_
    refine end2 S (fun _ => ?_)
    refine ⟨⟨[], 0, 0, 0, zeroL⟩, false, rfl, fun _ _ => zeroL_in _, nofun, fun _ d leaf _ he hg => ?_⟩
    have hr := right_goodD.2 hg
    have hk : t.kind = 8 := by rw [← kind_t, he]; rfl
    simp [hr, hk] at h2
  · refine c_skip ?_
    refine xtn ?_
    refine c_seq ?_
    have hgk : Good t.t ∧ t.kind = 8 := by
      simp only [Bool.or_eq_false_iff, Bool.not_eq_false', decide_eq_true_eq] at h2
      exact ⟨right_goodD.1 h2.1, h2.2⟩
    obtain ⟨hg, hk8⟩ := hgk
    have hl1 : t.kids.length = 1 := by
      have h := hg
      rw [t.t_eq] at h
      have hp := plain_shape (goodP h)
      rw [hk8] at hp
      rcases hp with q | q | q | q | q | q | q
      all_goals first | (simp at q; omega) | omega
    have hK0 : KLt 0 t.kids.length := ⟨by omega⟩
    have hg0 : Good (nthL t.kids 0).t := by
      have h := hg
      rw [t.t_eq] at h
      exact good_kid h (List.mem_map.2 ⟨_, nth_mem (by omega), rfl⟩)
    have htt : t.t = .mk 8 t.user t.num t.text [(nthL t.kids 0).t] := by
      have hks : t.kids = [nthL t.kids 0] := by
        match h : t.kids, hl1 with
        | [x], _ => rfl
      rw [t.t_eq, hk8]
      congr 1
      rw [hks]; rfl
    refine c_region ?_
    iterate 4 (refine sq S ?_; clear S; intro a S)
    refine sr S (runlist_c (nthL t.kids 0) (by have := good_dpt hg0; omega) _ w (foots_lt S) (S.t _)) ?_; clear S; rintro _ a w ⟨p, c, us, b0, rfl, hus, hul, hb⟩ S
    replace S := S.add hus
    obtain ⟨hb1, hb2⟩ := hb hg0
    have hneg : ∀ d leaf, datB d = true → t.t = dataT d leaf → b0 = true ∧ us.map LTerm.t = [textT dataS, textT d.name, textT (Lib.itoa d.ver), textT (Lib.itoa d.epoch), d.locked] := fun d leaf _ he => by
      rw [htt] at he
      simp only [dataT, signT, Term.mk.injEq, List.cons.injEq, and_true] at he
      cases hb : b0 with
      | false => exact absurd he.2.2.2.2 ((hb2 hb).2 _)
      | true => exact ⟨rfl, listT_inj (by rw [← hb1 hb]; exact he.2.2.2.2)⟩
    iterate 5 (refine sq S ?_; clear S; intro a S)
    refine wl_nil ?_
    refine xtn ?_
    iterate 2 (refine c_seq ?_)
    refine c_region ?_
    iterate 3 (refine sq S ?_; clear S; intro a S)
    iterate 3 (refine gQ S ?_; clear S; intro a S)
    refine sq S ?_; clear S; intro a S
    refine wl_nil ?_
    refine xtn ?_
    refine c_cond S (fun h5 => ?_) (fun h5 => ?_)
    · refine c_seq ?_
      refine c_region ?_
      refine sq S ?_; clear S; intro a S
      refine sw S ?_; clear S; intro a w S
      refine sq S ?_; clear S; intro a S
      refine wl_nil ?_
      refine xtn ?_
      refine c_ret ?_
      refine xtr ?_
      refine end2 S (fun _ => ?_)
      refine ⟨⟨[], 0, 0, 0, zeroL⟩, false, rfl, fun _ _ => zeroL_in _, nofun, fun _ d leaf hd he _ => ?_⟩
      obtain ⟨e1, e2⟩ := hneg d leaf hd he
      have := congrArg List.length e2
      simp at this
      simp [e1, this] at h5
    · refine c_skip ?_
      refine xtn ?_
      refine c_seq ?_
      have h5' : b0 = true ∧ us.length = 5 := by
        simp only [Bool.or_eq_false_iff, Bool.not_eq_false', decide_eq_true_eq] at h5
        exact ⟨h5.1, by have := h5.2; omega⟩
      obtain ⟨hbt, hu5⟩ := h5'
      have hK1 : KLt 1 us.length := ⟨by omega⟩
      have hK2 : KLt 2 us.length := ⟨by omega⟩
      have hK3 : KLt 3 us.length := ⟨by omega⟩
      have hK4 : KLt 4 us.length := ⟨by omega⟩
      have hmap : us.map LTerm.t = [(nthL us 0).t, (nthL us 1).t, (nthL us 2).t, (nthL us 3).t, (nthL us 4).t] := by
        match us, hu5 with
        | [_, _, _, _, _], _ => rfl
      have hgu : ∀ x ∈ us.map LTerm.t, Good x := by
        have h := hg0
        rw [hb1 hbt] at h
        have key : ∀ l : List Term, Good (listT l) → ∀ y ∈ l, Good y := by
          intro l
          induction l with
          | nil => intro _ y hy; cases hy
          | cons a l ih =>
            intro hg y hy
            rcases List.mem_cons.1 hy with rfl | hy
            · exact good_kid hg (by simp)
            · exact ih (good_kid hg (by simp)) y hy
        exact key _ h
      have hn64 := good_len (hgu (nthL us 1).t (by rw [hmap]; simp))
      refine c_region ?_
      iterate 3 (refine sq S ?_; clear S; intro a S)
      refine sr S (rnumber_c (nthL us 2) 9999 (by omega) (by omega) _ (S.t0 _)) ?_; clear S; rintro _ a w ⟨v, bv, rfl, hv1, hv0⟩ S
      iterate 5 (refine sq S ?_; clear S; intro a S)
      refine wl_nil ?_
      refine xtn ?_
      refine c_seq ?_
      refine c_region ?_
      iterate 3 (refine sq S ?_; clear S; intro a S)
      refine sr S (rnumber_c (nthL us 3) 8 (by omega) (by omega) _ (S.t0 _)) ?_; clear S; rintro _ a w ⟨e, be, rfl, he1, he0⟩ S
      iterate 5 (refine sq S ?_; clear S; intro a S)
      refine wl_nil ?_
      refine xtn ?_
      refine c_seq ?_
      refine c_drawD [(0, true), (1, true), (2, true), (3, true), (4, true), (5, true), (6, true), (7, true), (8, true), (9, true), (10, true), (11, true), (12, false), (13, false)] [] S ?_; clear S; intro w S
      iterate 12 (refine dq S ?_; clear S; intro a S)
      refine dl ?_
      refine sa S ?_; clear S; intro b11 a w S
      refine de S ?_
      refine dl ?_
      refine sw S ?_; clear S; intro a w S
      refine de S ?_
      refine dn ?_
      refine xtn ?_
      iterate 2 (refine c_seq ?_)
      obtain ⟨dd, hdd⟩ : ∃ dd : LDat, dd = ⟨(nthL us 1).text, v, e, t.user, nthL us 4⟩ := ⟨_, rfl⟩
      rw [show ([str (nthL us 1).text, .int .i64 v, .int .i64 e, .int .i64 t.user, .int .i64 (nthL us 4).kind, .int .i64 (nthL us 4).user, .int .i64 (nthL us 4).num, str (nthL us 4).text, .slice (nthL us 4).p (nthL us 4).kids.length (nthL us 4).cap] : List Value) = cDat dd from by rw [hdd]] at S
      have hddl : LeC dd.name.length 1000000 := ⟨by rw [hdd]; show (nthL us 1).text.length ≤ _; omega⟩
      have hlk : dd.locked = nthL us 4 := by rw [hdd]
      replace S := S.add (Φ := LtF dd.locked) (by rw [hlk]; exact S.t (nthL us 4))
      have hvalid : ∀ d leaf, datB d = true → t.t = dataT d leaf → bv = true ∧ be = true ∧ dd.d = d ∧ leaf = t.num := fun d leaf hd he => by
        obtain ⟨-, f⟩ := hneg d leaf hd he
        obtain ⟨-, a2, a3, a4, a5, a6, a7, -, -⟩ := datB_iff.1 hd
        rw [hmap] at f
        simp only [List.cons.injEq, and_true] at f
        obtain ⟨-, f1, f2, f3, f4⟩ := f
        have hbv : bv = true := by
          cases h : bv with
          | true => rfl
          | false => exact absurd f2 ((hv0 h).2 d.ver (by omega) (by omega))
        have hbe : be = true := by
          cases h : be with
          | true => rfl
          | false => exact absurd f3 ((he0 h).2 d.epoch (by omega) (by omega))
        have ev : v = d.ver := itoa_eq (by have := (hv1 hbv).1; omega) (by omega) (by rw [← (hv1 hbv).2, f2])
        have ee : e = d.epoch := itoa_eq (by have := (he1 hbe).1; omega) (by omega) (by rw [← (he1 hbe).2, f3])
        rw [htt] at he
        simp only [dataT, signT, Term.mk.injEq, List.cons.injEq, and_true] at he
        refine ⟨hbv, hbe, ?_, he.2.2.1.symm⟩
        rw [hdd]
        obtain ⟨x1, x2, x3, x4, x5⟩ := d
        simp only at ev ee he f4 f1
        simp only [LDat.d, Dat.mk.injEq]
        exact ⟨(text_of f1).2.1, ev, ee, he.2.1, f4⟩
      refine c_drawD [(0, true), (1, true), (2, true), (3, true), (4, true), (5, true), (6, true), (7, true), (8, false), (9, true), (10, true), (11, true), (12, true), (13, true), (14, true), (16, true), (15, false), (17, false), (18, true), (19, true)] [] S ?_; clear S; intro w S
      iterate 3 (refine dq S ?_; clear S; intro a S)
      iterate 2 (refine dqG S ?_; clear S; intro a S)
      iterate 2 (refine dq S ?_; clear S; intro a S)
      refine dqG S ?_; clear S; intro a S
      refine dl ?_
      refine gC S ?_; clear S; intro a w S
      refine de S ?_
      refine dqG S ?_; clear S; intro a S
      iterate 2 (refine dq S ?_; clear S; intro a S)
      iterate 4 (refine dqG S ?_; clear S; intro a S)
      refine dl ?_
      refine gCT (T := dataT dd.d t.num) S (fun hc => ?_) ?_
      · have hdb : datB dd.d = true := by
          have := hc _ (List.mem_cons_self ..)
          simp only [Bool.not_eq_true', Bool.or_eq_false_iff, Bool.not_eq_false'] at this
          exact this.2
        exact rterm17_c dd t.num hdb _ w (foots_lt S) (S.t dd.locked)
      clear S; intro q a w hq hqf S
      replace S := S.add hqf
      refine de S ?_
      refine dl ?_
      refine gC S ?_; clear S; intro a w S
      refine de S ?_
      refine dqG S ?_; clear S; intro a S
      refine dq S ?_; clear S; intro a S
      refine dn ?_
      refine xtn ?_
      refine c_cond S (fun h10 => ?_) (fun h10 => ?_)
      · refine c_seq ?_
        refine c_region ?_
        refine sq S ?_; clear S; intro a S
        refine sw S ?_; clear S; intro a w S
        refine sq S ?_; clear S; intro a S
        refine wl_nil ?_
        refine xtn ?_
        refine c_ret ?_
        refine xtr ?_
        refine end2 S (fun _ => ?_)
        refine ⟨⟨[], 0, 0, 0, zeroL⟩, false, rfl, fun _ _ => zeroL_in _, nofun, fun _ d leaf hd he _ => ?_⟩
        obtain ⟨e1, e2, e3, e4⟩ := hvalid d leaf hd he
        have hdb : datB dd.d = true := by rw [e3]; exact hd
        have hq2 : q.t = dataT dd.d t.num := hq (by simp [e1, e2, hdb])
        have hsm : sameF q.t t.t = true := (sameF_iff _ _).2 (by rw [hq2, he, e3, e4])
        simp [e1, e2, hdb, hsm] at h10
      · refine c_skip ?_
        refine xtn ?_
        refine c_seq ?_
        refine c_region ?_
        refine sq S ?_; clear S; intro a S
        refine sw S ?_; clear S; intro a w S
        refine sq S ?_; clear S; intro a S
        refine wl_nil ?_
        refine xtn ?_
        refine c_ret ?_
        simp only [Bool.or_eq_false_iff, Bool.not_eq_false'] at h10
        obtain ⟨⟨⟨e1, e2⟩, hdb⟩, hsm⟩ := h10
        have hq2 : q.t = dataT dd.d t.num := hq (by simp [e1, e2, hdb])
        have hlat := S.laterT (M := M) dd.locked
        refine end2 S (fun _ => ?_)
        exact ⟨dd, true, rfl, hlat, fun _ => ⟨t.num, hdb, by rw [← hq2]; exact ((sameF_iff _ _).1 hsm).symm, hg⟩, nofun⟩
end Go.Proofs.YtieeoakdkbackaaDoor

/- Layer 17: DataReads, DataMakes. -/
namespace Go.Proofs.YtieeoakdkbackaaDoor
open Go Go.Wk
set_option synthInstance.maxSize 100000
set_option synthInstance.maxHeartbeats 400000
set_option maxRecDepth 100000

abbrev zD : LDat := ⟨[], 0, 0, 0, zeroL⟩
theorem datareads_c (t : LTerm) (w0 : World) (ht : Stable (fun _ => False) w0 LibF) (hf : Stable (fun _ => False) w0 (LtF t)) : Ret Tryd.prog 3 [vL t] w0 (fun _ => False) fun v _ => v = .bool true := by
  refine enter Tryd.func3 rfl rfl (Wd.begin (fs := [TabF, LibF, LtF t]) (by simp; exact ⟨ht.imp fun _ h => h.1, ht, hf⟩)) (fun a S => ?_)
  simp only [Tryd.ntmps3, List.length_cons, List.length_nil, Nat.reduceAdd, Nat.reduceSub, List.replicate_succ, List.replicate_zero, List.cons_append, List.nil_append] at S
  refine c_seq ?_
  refine c_region ?_
  refine sa S ?_; clear S; intro b1 a w S
  refine sq S ?_; clear S; intro a S
  refine wl_nil ?_
  refine xtn ?_
  iterate 2 (refine c_seq ?_)
  refine c_region ?_
  refine sr S (wakes17_c _ (S.mem.fact0 LibF)) ?_; clear S; rintro _ a w rfl S
  refine sq S ?_; clear S; intro a S
  rw [show (!true) = false from rfl] at S
  refine wl_nil ?_
  refine xtn ?_
  refine c_condF S ?_
  refine c_skip ?_
  refine xtn ?_
  iterate 2 (refine c_seq ?_)
  refine c_region ?_
  refine sq S ?_; clear S; intro a S
  refine sc S ?_; clear S; intro a w S
  refine wl_nil ?_
  refine xtn ?_
  refine c_cond S (fun h3 => ?_) (fun h3 => ?_)
  · refine c_seq ?_
    refine c_region ?_
    refine sq S ?_; clear S; intro a S
    refine wl_nil ?_
    refine xtn ?_
    refine c_ret ?_
    refine xtr ?_
    refine end1 S (fun _ => rfl)
  · refine c_skip ?_
    refine xtn ?_
    refine c_seq ?_
    refine c_region ?_
    refine sq S ?_; clear S; intro a S
    refine sr S (dread_c t _ w (foots_lt S) (S.mem.fact LibF) (S.t t)) ?_; clear S; rintro _ a w ⟨d, leaf, e, rfl, hdf, hdl, hd0, hd1⟩ S
    replace S := S.add hdf
    iterate 4 (refine sq S ?_; clear S; intro a S)
    refine sa S ?_; clear S; intro b3 a w S
    refine sw S ?_; clear S; intro a w S
    iterate 2 (refine sq S ?_; clear S; intro a S)
    refine wl_nil ?_
    refine xtn ?_
    refine c_seq ?_
    refine c_region ?_
    refine sq S ?_; clear S; intro a S
    refine sr S (rread17_c t _ w (foots_lt S) (S.t t)) ?_; clear S; rintro _ a w ⟨y, ok, rfl, hyf, hy1, hy0⟩ S
    replace S := S.add hyf
    iterate 3 (refine sq S ?_; clear S; intro a S)
    refine sa S ?_; clear S; intro b6 a w S
    refine sw S ?_; clear S; intro a w S
    refine sq S ?_; clear S; intro a S
    refine wl_nil ?_
    refine xtn ?_
    iterate 2 (refine c_seq ?_)
    refine c_region ?_
    iterate 2 (refine sq S ?_; clear S; intro a S)
    refine wl_nil ?_
    refine xtn ?_
    refine c_cond S (fun h7 => ?_) (fun h7 => ?_)
    · refine c_seq ?_
      have hok : ok = false := by simpa using h7
      have he : e ≠ 0 := fun he => by
        obtain ⟨a1, a2, a3⟩ := hd0 he
        exact hy0 hok _ _ a1 a2 a3
      obtain ⟨rfl, rfl, rfl, -⟩ := hd1 he
      refine c_region ?_
      iterate 3 (refine sq S ?_; clear S; intro a S)
      iterate 2 (refine gQ S ?_; clear S; intro a S)
      iterate 2 (refine sq S ?_; clear S; intro a S)
      iterate 2 (refine gQ S ?_; clear S; intro a S)
      refine gC (hq := (⟨fun w m => rsame17_c zD zD w (m.t0 zeroL) (m.t0 zeroL)⟩ : CallV Tryd.prog 11 [vDat zD, vDat zD] _ _ (.bool (dsameB zD.d zD.d)))) S ?_; clear S; intro a w S
      iterate 2 (refine sq S ?_; clear S; intro a S)
      refine wl_nil ?_
      refine xtn ?_
      refine c_ret ?_
      refine xtr ?_
      refine end1 S (fun _ => ?_)
      have : dsameB zD.d zD.d = true := dsameB_iff.2 rfl
      simp [this]
    · refine c_skip ?_
      refine xtn ?_
      refine c_seq ?_
      refine c_region ?_
      iterate 3 (refine sq S ?_; clear S; intro a S)
      iterate 4 (refine gQ S ?_; clear S; intro a S)
      iterate 2 (refine sq S ?_; clear S; intro a S)
      iterate 2 (refine gQ S ?_; clear S; intro a S)
      refine gC S ?_; clear S; intro a w S
      iterate 2 (refine sq S ?_; clear S; intro a S)
      refine wl_nil ?_
      refine xtn ?_
      refine c_ret ?_
      have hok : ok = true := by simpa using h7
      obtain ⟨leaf', b1, b2, b3⟩ := hy1 hok
      have he : e = 0 := Classical.byContradiction fun he => (hd1 he).2.2.2 _ _ b1 b2 b3
      obtain ⟨a1, a2, -⟩ := hd0 he
      obtain ⟨e1, -⟩ := dataT_inj a1 b1 (a2.symm.trans b2)
      have hs : dsameB d.d y.d = true := dsameB_iff.2 e1
      have hl : leaf = t.num := by
        have h := a2
        rw [t.t_eq] at h
        simp only [dataT, signT, Term.mk.injEq] at h
        exact h.2.2.1.symm
      refine end1 S (fun _ => ?_)
      simp [he, hl, hs]
instance dcheckI {d : LDat} {bs fs} [h : HasT fs d.locked] [h2 : LeC d.name.length 1000000] : CallV Tryd.prog 17 [vDat d] bs fs (.int .i64 (if datB d.d then 0 else 270)) := ⟨fun w m => dcheck_c d h2.le w (m.t0 _)⟩
theorem datamakes_c (d o : LDat) (leaf : Int) (w0 : World) (ht : Stable (fun _ => False) w0 LibF) (hf : Stable (fun _ => False) w0 (LtF d.locked)) (ho : Stable (fun _ => False) w0 (LtF o.locked)) : Ret Tryd.prog 4 [vDat d, vDat o, .int .i64 leaf] w0 (fun _ => False) fun v _ => v = .bool true := by
  refine enter Tryd.func4 rfl rfl (Wd.begin (fs := [TabF, LibF, LtF d.locked, LtF o.locked]) (by simp; exact ⟨ht.imp fun _ h => h.1, ht, hf, ho⟩)) (fun a S => ?_)
  simp only [Tryd.ntmps4, List.length_cons, List.length_nil, Nat.reduceAdd, Nat.reduceSub, List.replicate_succ, List.replicate_zero, List.cons_append, List.nil_append] at S
  refine c_seq ?_
  refine c_region ?_
  refine sa S ?_; clear S; intro b3 a w S
  refine sa S ?_; clear S; intro b4 a w S
  refine sq S ?_; clear S; intro a S
  refine wl_nil ?_
  refine xtn ?_
  iterate 2 (refine c_seq ?_)
  refine c_region ?_
  refine sr S (wakes17_c _ (S.mem.fact0 LibF)) ?_; clear S; rintro _ a w rfl S
  refine sq S ?_; clear S; intro a S
  rw [show (!true) = false from rfl] at S
  refine wl_nil ?_
  refine xtn ?_
  refine c_condF S ?_
  refine c_skip ?_
  refine xtn ?_
  iterate 2 (refine c_seq ?_)
  refine c_region ?_
  refine sq S ?_; clear S; intro a S
  refine sc S ?_; clear S; intro a w S
  refine sq S ?_; clear S; intro a S
  refine gQ S ?_; clear S; intro a S
  refine gC S ?_; clear S; intro a w S
  refine sq S ?_; clear S; intro a S
  refine wl_nil ?_
  refine xtn ?_
  refine c_cond S (fun h3 => ?_) (fun h3 => ?_)
  · refine c_seq ?_
    refine c_region ?_
    refine sq S ?_; clear S; intro a S
    refine wl_nil ?_
    refine xtn ?_
    refine c_ret ?_
    refine xtr ?_
    refine end1 S (fun _ => rfl)
  · refine c_skip ?_
    refine xtn ?_
    refine c_seq ?_
    have hn : d.name.length ≤ 1000000 := by
      simp only [overD, Bool.or_eq_false_iff, decide_eq_false_iff_not] at h3; omega
    have hL : LeC d.name.length 1000000 := ⟨hn⟩
    refine c_region ?_
    iterate 2 (refine sq S ?_; clear S; intro a S)
    refine sr S (dmake_c d leaf hn _ w (foots_lt S) (S.mem.fact TabF) (S.t d.locked)) ?_; clear S; rintro _ a w ⟨t, e, rfl, htf, h0, h1⟩ S
    replace S := S.add htf
    iterate 3 (refine sq S ?_; clear S; intro a S)
    refine sa S ?_; clear S; intro b7 a w S
    refine sw S ?_; clear S; intro a w S
    refine sq S ?_; clear S; intro a S
    refine wl_nil ?_
    refine xtn ?_
    iterate 2 (refine c_seq ?_)
    refine c_drawD [(0, true), (1, true), (3, true), (4, true), (2, false), (5, false), (6, true), (7, true), (8, true), (9, true), (10, false), (11, true), (12, true)] [] S ?_; clear S; intro w S
    iterate 4 (refine dq S ?_; clear S; intro a S)
    refine dl ?_
    refine sc S ?_; clear S; intro a w S
    refine de S ?_
    refine dl ?_
    refine sc S ?_; clear S; intro a w S
    refine de S ?_
    iterate 2 (refine dq S ?_; clear S; intro a S)
    iterate 2 (refine dqG S ?_; clear S; intro a S)
    refine dl ?_
    refine gC S ?_; clear S; intro a w S
    refine de S ?_
    refine dqG S ?_; clear S; intro a S
    refine dq S ?_; clear S; intro a S
    refine dn ?_
    refine xtn ?_
    refine c_cond S (fun h6 => ?_) (fun h6 => ?_)
    · refine c_seq ?_
      refine c_region ?_
      refine sq S ?_; clear S; intro a S
      refine wl_nil ?_
      refine xtn ?_
      refine c_ret ?_
      refine xtr ?_
      exfalso
      have hs : dsameB d.d d.d = true := dsameB_iff.2 rfl
      simp [hs] at h6
    · refine c_skip ?_
      refine xtn ?_
      refine c_seq ?_
      refine c_region ?_
      iterate 2 (refine sq S ?_; clear S; intro a S)
      refine sr S (rsame_c t zeroL w (S.t0 _) (S.t0 _)) ?_; clear S; rintro _ a w rfl S
      refine sq S ?_; clear S; intro a S
      refine wl_nil ?_
      refine xtn ?_
      iterate 2 (refine c_seq ?_)
      refine c_region ?_
      refine sq S ?_; clear S; intro a S
      refine sc S ?_; clear S; intro a w S
      refine sq S ?_; clear S; intro a S
      refine wl_nil ?_
      refine xtn ?_
      refine c_cond S (fun h9 => ?_) (fun h9 => ?_)
      · refine c_seq ?_
        refine c_region ?_
        iterate 2 (refine sq S ?_; clear S; intro a S)
        iterate 2 (refine gQ S ?_; clear S; intro a S)
        iterate 2 (refine sq S ?_; clear S; intro a S)
        refine gQ S ?_; clear S; intro a S
        refine gC S ?_; clear S; intro a w S
        refine gQ S ?_; clear S; intro a S
        iterate 2 (refine sq S ?_; clear S; intro a S)
        refine wl_nil ?_
        refine xtn ?_
        refine c_ret ?_
        refine xtr ?_
        have hdb : datB d.d = false := by simpa using h9
        have he : e ≠ 0 := fun he => by have := (h0 he).1; rw [hdb] at this; cases this
        obtain ⟨rfl, q⟩ := h1 he
        have hs : sameF zeroL.t zeroL.t = true := (sameF_iff _ _).2 rfl
        have he2 : e = 270 := by
          rcases q with q | q | q
          · exact q.1
          · rw [hdb] at q; cases q.2.1
          · rw [hdb] at q; cases q.2.1
        refine end1 S (fun _ => ?_)
        simp [hs, he2, hdb]
      · refine c_skip ?_
        refine xtn ?_
        iterate 2 (refine c_seq ?_)
        refine c_region ?_
        refine sq S ?_; clear S; intro a S
        refine sc S ?_; clear S; intro a w S
        refine sq S ?_; clear S; intro a S
        refine wl_nil ?_
        refine xtn ?_
        refine c_cond S (fun h11 => ?_) (fun h11 => ?_)
        · refine c_seq ?_
          refine c_region ?_
          refine sq S ?_; clear S; intro a S
          refine wl_nil ?_
          refine xtn ?_
          refine c_ret ?_
          refine xtr ?_
          exfalso
          have hdb : datB d.d = true := by simpa using h9
          simp [hdb] at h11
        · refine c_skip ?_
          refine xtn ?_
          iterate 2 (refine c_seq ?_)
          refine c_region ?_
          iterate 3 (refine sq S ?_; clear S; intro a S)
          iterate 2 (refine gQ S ?_; clear S; intro a S)
          refine sq S ?_; clear S; intro a S
          refine wl_nil ?_
          refine xtn ?_
          refine c_cond S (fun h13 => ?_) (fun h13 => ?_)
          · refine c_seq ?_
            refine c_region ?_
            iterate 2 (refine sq S ?_; clear S; intro a S)
            iterate 2 (refine gQ S ?_; clear S; intro a S)
            iterate 2 (refine sq S ?_; clear S; intro a S)
            refine wl_nil ?_
            refine xtn ?_
            refine c_ret ?_
            refine xtr ?_
            have hdb : datB d.d = true := by simpa using h9
            have hl : ¬ (0 ≤ leaf ∧ leaf ≤ 65535) := by
              simp only [Bool.or_eq_true, decide_eq_true_eq] at h13; omega
            have he : e ≠ 0 := fun he => hl (h0 he).2.1
            obtain ⟨rfl, q⟩ := h1 he
            have hs : sameF zeroL.t zeroL.t = true := (sameF_iff _ _).2 rfl
            have he2 : e = 2 := by
              rcases q with q | q | q
              · rw [hdb] at q; cases q.2
              · exact q.1
              · exact absurd q.2.2.1 hl
            refine end1 S (fun _ => ?_)
            simp [hs, he2]
          · refine c_skip ?_
            refine xtn ?_
            refine c_seq ?_
            have hdb : datB d.d = true := by simpa using h9
            have hl : 0 ≤ leaf ∧ leaf ≤ 65535 := by
              simp only [Bool.or_eq_false_iff, decide_eq_false_iff_not] at h13; omega
            refine c_region ?_
            iterate 2 (refine sq S ?_; clear S; intro a S)
            refine sr S (rterm17_c d leaf hdb _ w (foots_lt S) (S.t d.locked)) ?_; clear S; rintro _ a w ⟨q, rfl, hq, hqf⟩ S
            replace S := S.add hqf
            refine sa S ?_; clear S; intro b10 a w S
            refine sw S ?_; clear S; intro a w S
            refine wl_nil ?_
            refine xtn ?_
            iterate 2 (refine c_seq ?_)
            refine c_region ?_
            refine sq S ?_; clear S; intro a S
            refine sc S ?_; clear S; intro a w S
            refine sq S ?_; clear S; intro a S
            refine wl_nil ?_
            refine xtn ?_
            refine c_cond S (fun h16 => ?_) (fun h16 => ?_)
            · refine c_seq ?_
              refine c_region ?_
              iterate 2 (refine sq S ?_; clear S; intro a S)
              iterate 2 (refine gQ S ?_; clear S; intro a S)
              iterate 2 (refine sq S ?_; clear S; intro a S)
              refine wl_nil ?_
              refine xtn ?_
              refine c_ret ?_
              refine xtr ?_
              have hg : ¬ Good (dataT d.d leaf) := fun hg => by
                rw [← hq] at hg
                rw [right_goodD.2 hg] at h16; cases h16
              have he : e ≠ 0 := fun he => hg (h0 he).2.2.1
              obtain ⟨rfl, q2⟩ := h1 he
              have hs : sameF zeroL.t zeroL.t = true := (sameF_iff _ _).2 rfl
              have he2 : e = 150 := by
                rcases q2 with q2 | q2 | q2
                · rw [hdb] at q2; cases q2.2
                · exact absurd hl q2.2.2
                · exact q2.1
              refine end1 S (fun _ => ?_)
              simp [hs, he2]
            · refine c_skip ?_
              refine xtn ?_
              refine c_seq ?_
              refine c_region ?_
              iterate 3 (refine sq S ?_; clear S; intro a S)
              iterate 2 (refine gQ S ?_; clear S; intro a S)
              refine gC S ?_; clear S; intro a w S
              iterate 2 (refine sq S ?_; clear S; intro a S)
              refine wl_nil ?_
              refine xtn ?_
              refine c_ret ?_
              have hg : Good (dataT d.d leaf) := by
                rw [← hq]
                exact right_goodD.1 (by simpa using h16)
              have he : e = 0 := Classical.byContradiction fun he => by
                rcases (h1 he).2 with q2 | q2 | q2
                · rw [hdb] at q2; cases q2.2
                · exact q2.2.2 hl
                · exact q2.2.2.2 hg
              have hs : sameF t.t q.t = true := (sameF_iff _ _).2 (by rw [hq, (h0 he).2.2.2])
              refine end1 S (fun _ => ?_)
              simp [hs, he]
end Go.Proofs.YtieeoakdkbackaaDoor

/- What writings are that come in; the tied card of DataBack. -/
namespace Go.Proofs.YtieeoakdkbackaaDoor
open Go Go.Wk
open Go.ChangeShapes Go.WideShapes Go.ChangeAt Go.RowKit
set_option maxRecDepth 100000

instance troDat : Tro Tryd.prog 28 LDat := ⟨fun enc w base spare held fuel cs x h => by
  obtain ⟨hlen, hf⟩ := trod_flds Tryd.underlying28 h
  rw [show Tryd.prog.cellsOf 28 = 9 from by kernel_rfl] at hlen
  obtain ⟨n0, y0, g0⟩ := hf 0 9 0 rfl
  obtain ⟨n1, y1, g1⟩ := hf 1 3 1 rfl
  obtain ⟨n2, y2, g2⟩ := hf 2 3 2 rfl
  obtain ⟨n3, y3, g3⟩ := hf 3 3 3 rfl
  obtain ⟨n4, y4, g4⟩ := hf 4 24 4 rfl
  have hS : Tro Tryd.prog 9 (List UInt8) := troS Tryd.underlying9 (by kernel_rfl)
  obtain ⟨u0, e0, i0⟩ := trod_fld (α := List UInt8) g0 rfl
  obtain ⟨u1, e1, i1⟩ := trod_fld (α := Int) g1 rfl
  obtain ⟨u2, e2, i2⟩ := trod_fld (α := Int) g2 rfl
  obtain ⟨u3, e3, i3⟩ := trod_fld (α := Int) g3 rfl
  obtain ⟨t, e4, i4⟩ := trod_fld (α := LTerm) g4 rfl
  refine ⟨⟨u0, u1, u2, u3, t⟩, ?_, i4⟩
  match cs, hlen with
  | [c0, c1, c2, c3, d1, d2, d3, d4, d5], _ =>
    have q0 : [c0] = [str u0] := e0
    have q1 : [c1] = [.int .i64 u1] := e1
    have q2 : [c2] = [.int .i64 u2] := e2
    have q3 : [c3] = [.int .i64 u3] := e3
    have q4 : [d1, d2, d3, d4, d5] = t.cells := e4
    simp only [List.cons.injEq, and_true] at q0 q1 q2 q3
    show [c0, c1, c2, c3] ++ [d1, d2, d3, d4, d5] = [str u0, .int .i64 u1, .int .i64 u2, .int .i64 u3] ++ t.cells
    rw [q0, q1, q2, q3, q4], by kernel_rfl⟩
end Go.Proofs.YtieeoakdkbackaaDoor

/- DataReads answers true at every input and leaves it as it was: the row, and the tied card. -/
namespace Go.Proofs.YtieeoakdkbackaaDoor
open Go Go.Wk
open Go.ChangeShapes Go.WideShapes Go.ChangeAt Go.RowKit
set_option maxRecDepth 100000

theorem datareads_lifted (os : Os) (started : os.Started) (H : Type) (enc : TypeId × Value → H) :
    ReturnsInHanded {} Tryd.checked os 3 .any (fun w args => (Rows.dataReadsSpec.pre enc Tryd.prog Tryd.f3 Rows.dataReadsRow.domain false w args ∧ laidMet Tryd.prog laidL w) ∧ sizedMet enc Tryd.prog Tryd.f3 (OpenSpec.ofChange Rows.dataReadsSpec) false w args)
      (Rows.dataReadsSpec.post enc Tryd.prog Tryd.f3 false true false false) := by
  refine returnsInHanded_of_change_and (C := Tryd.checked) (X := fun w _ => laidMet Tryd.prog laidL w) (fun _ _ _ hh h => h.of_heap hh) own started (by kernel_rfl) Tryd.func3
    (ChangeSpec.witness_at (enc := enc) (C := Tryd.checked) (os := os) (X := fun w _ => laidMet Tryd.prog laidL w) false (laidWorld os) #[.agg #[.int .i64 0, .int .i64 0, .int .i64 0, .string .empty, .slice none 0 0]] 8 rfl (by kernel_rfl) (by kernel_rfl) (by kernel_rfl) (by kernel_rfl) (by kernel_rfl) (laidWorld_met os _)) ?_
  intro W base args ds gs before hval0 hW _ _ hL _
  have hval : ∀ (j : Nat) t v, Tryd.f3.params[j]? = some t → args[j]? = some v → Value.okWide Tryd.prog W .any base t v := hval0
  have hW2 := hW
  obtain ⟨p, q, hA0, hV, rfl, _, _⟩ := hW
  have hA : DataW.TrodAll enc Tryd.prog W 0 (fun _ => true) true Tryd.f3.params.toList args.toList ds p := hA0
  rw [Tryd.params3] at hA hval
  obtain ⟨v0, d0, rfl, rfl, h0⟩ := trodAll_one hA
  obtain ⟨rfl, rfl⟩ := trodVars_none hV
  obtain ⟨t, rfl, ht⟩ := term_of_Trod (T := 24) h0 (hval 0 24 v0 rfl rfl)
  refine Ret.law (datareads_c t W (lib_of_laid hL).stable ht.stable) fun W1 hag => ?_
  exact ⟨_, rfl, law_post (B := 4) laidOut (by kernel_rfl) rfl rfl rfl hW2 rfl rfl rfl hag⟩
theorem datareads_row : Rows.DataReadsSaid :=
  OpenClaim.holds_of_wide 3 Tryd.f3 rfl rfl rfl rfl rfl rfl rfl ⟨rfl, rfl, rfl, rfl, rfl⟩ rfl rfl rfl rfl rfl (by kernel_rfl) Tryd.func3 (by kernel_rfl)
    (of_decide_eq_true (by kernel_rfl)) (by unfold Func.isWrapper; rw [if_neg (of_decide_eq_false (by kernel_rfl))]; exact ⟨rfl, rfl⟩)
    (fun os started H enc _ => datareads_lifted os started H enc)
theorem datareads_holds : Rows.DataReadsCardSaid :=
  Claim7.holds_tied_plain_at .later [] [.data, .data, .data, .sentinel, .sentinel] true (true, "30fb8166acb64be85a64741f6e8d2359decb1c7b135f688c556d5568ddad5165") true
    datareads_row (fun _ h => by cases h) (by kernel_rfl) (fun _ h => by cases h) dataReads_row_tie rfl ⟨rfl, rfl⟩ (by kernel_rfl) rfl
    (fun f fn hf hfn => by
      obtain rfl : f = 3 := Option.some.inj ((show Tryd.prog.funcNamed "safehouse/safehouselaw17.DataReads" = some 3 by kernel_rfl).symm.trans hf) |>.symm
      obtain rfl : fn = Tryd.f3 := (Option.some.inj (Tryd.func3.symm.trans hfn)).symm
      exact ⟨by kernel_rfl, fun j t ht => by
        rw [Tryd.params3] at ht
        have h3 : t = 24 := by
          rcases j with _ | j
          · exact (by simpa using ht.symm)
          · simp at ht
        rcases h3 with rfl
        · exact (show Tryd.prog.wantsStandIn 24 = false by kernel_rfl)⟩)
    (by kernel_rfl)
end Go.Proofs.YtieeoakdkbackaaDoor
