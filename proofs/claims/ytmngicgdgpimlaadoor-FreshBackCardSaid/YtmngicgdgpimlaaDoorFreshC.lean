/- Package fresh: Covers, Accept with nothing seen; the layer does something. -/
import Derived.Test.YtmngicgdgpimlaaDoorFreshB
namespace Go.Proofs.YtmngicgdgpimlaaDoor
open Go Go.Wk
set_option synthInstance.maxSize 100000
set_option synthInstance.maxHeartbeats 400000
set_option maxRecDepth 100000

theorem indexMk_c (F : Nat) [EntF Tryd.prog F] (ca : List Value) (q : LMark → Bool) (xs : List LMark) (p : Option Addr) (n c : Nat) (w0 : World) (hn : xs.length = n) (hl : n ≤ 9223372036854775807) (hx : Stable (fun _ => False) w0 (GlF p xs))
    (hF : ∀ x ∈ xs, ∀ w, Agree (fun _ => False) w0 w → Ret Tryd.prog F (vMark x :: ca) w (fun _ => False) fun v _ => v = .bool (q x)) :
    Ret Tryd.prog 51 [.slice p n c, .func (.func F) #[] ⟨ca⟩] w0 (fun _ => False) fun v _ => v = .int .i64 (idxG q xs 0) := by
  refine enter Tryd.func51 rfl rfl (Wd.begin (fs := [GlF p xs]) (by simpa using hx)) (fun a S => ?_)
  simp only [Tryd.ntmps51, List.length_cons, List.length_nil, Nat.reduceAdd, Nat.reduceSub, List.replicate_succ, List.replicate_zero, List.cons_append, List.nil_append] at S
  refine c_seq ?_
  refine c_region ?_
  refine sq S ?_; clear S; intro a S
  refine wl_nil ?_
  refine xtn ?_
  iterate 2 (refine c_seq ?_)
  refine c_region ?_
  iterate 3 (refine sq S ?_; clear S; intro a S)
  refine wl_nil ?_
  refine xtn ?_
  refine c_block ?_
  refine c_forb1 S (fun (k : Nat) uu => [(4, uu 4), (0, uu 5), (2, .int .i64 (k : Nat)), (0, uu 9), (0, uu 10), (0, uu 11), (0, uu 12), (0, uu 13), (0, uu 14), (0, uu 15), (0, uu 16), (0, uu 17), (0, uu 18)]) (fun (k : Nat) => k ≤ n ∧ idxG q (xs.drop k) k = idxG q xs 0) (fun (k : Nat) => n - k) (0) ?_ S.uu ?_ ?_
  · exact ⟨Nat.zero_le _, rfl⟩
  · first | exact S | exact S.sub _ _
  · clear S; rintro k uu a w ⟨hk, hrel⟩ S
    refine c_seq ?_
    refine c_region ?_
    refine sq S ?_; clear S; intro a S
    refine wl_nil ?_
    refine xtn ?_
    refine c_seq ?_
    refine c_cond S (fun h2 => ?_) (fun h2 => ?_)
    · refine c_skip ?_
      refine xtn ?_
      refine c_seq ?_
      refine c_block ?_
      refine c_seq ?_
      refine c_region ?_
      iterate 2 (refine sq S ?_; clear S; intro a S)
      refine wl_nil ?_
      refine xtn ?_
      refine c_seq ?_
      have hkl : k < n := by simp at h2; omega
      have hK : KLt k n := ⟨hkl⟩
      have hK2 : KLt k xs.length := ⟨by omega⟩
      rw [nthG_drop (show k < xs.length by omega), idxG] at hrel
      refine c_region ?_
      iterate 5 (refine sq S ?_; clear S; intro a S)
      refine sr S (hF (nthG xs k) (nthG_mem (by omega)) w S.wd.agree) ?_; clear S; rintro _ a w rfl S
      refine wl_nil ?_
      refine xtn ?_
      refine c_cond S (fun h4 => ?_) (fun h4 => ?_)
      · refine c_seq ?_
        refine c_region ?_
        iterate 2 (refine sq S ?_; clear S; intro a S)
        refine wl_nil ?_
        refine xtn ?_
        refine c_ret ?_
        refine xbr ?_
        iterate 2 (refine xtr ?_)
        refine xbr ?_
        refine xtr ?_
        rw [if_pos h4] at hrel
        refine end1 S (fun _ => ?_)
        rw [hrel]
      · refine c_skip ?_
        refine xbn ?_
        refine xtn ?_
        refine c_region ?_
        iterate 2 (refine sq S ?_; clear S; intro a S)
        refine wl_nil ?_
        refine xtn ?_
        rw [if_neg (by simpa using h4)] at hrel
        rw [w64 ((k : Int) + 1) (by omega) (by omega)] at S
        exact ⟨k + 1, S.uu, ⟨hkl, by rw [← hrel]; rfl⟩, S.sub _ _, by omega⟩
    · refine c_exit ?_
      iterate 2 (refine xte ?_)
      refine xbe ?_
      refine xtn ?_
      refine c_seq ?_
      refine c_region ?_
      refine sq S ?_; clear S; intro a S
      refine wl_nil ?_
      refine xtn ?_
      refine c_ret ?_
      rw [List.drop_of_length_le (by simp at h2; omega)] at hrel
      refine end1 S (fun _ => ?_)
      rw [← hrel]; rfl
theorem containsMk_c (F : Nat) [EntF Tryd.prog F] (ca : List Value) (q : LMark → Bool) (xs : List LMark) (p : Option Addr) (n c : Nat) (w0 : World) (hn : xs.length = n) (hl : n ≤ 9223372036854775807) (hx : Stable (fun _ => False) w0 (GlF p xs))
    (hF : ∀ x ∈ xs, ∀ w, Agree (fun _ => False) w0 w → Ret Tryd.prog F (vMark x :: ca) w (fun _ => False) fun v _ => v = .bool (q x)) :
    Ret Tryd.prog 31 [.slice p n c, .func (.func F) #[] ⟨ca⟩] w0 (fun _ => False) fun v _ => v = .bool (xs.any q) := by
  refine enter Tryd.func31 rfl rfl (Wd.begin (fs := [GlF p xs]) (by simpa using hx)) (fun a S => ?_)
  simp only [Tryd.ntmps31, List.length_cons, List.length_nil, Nat.reduceAdd, Nat.reduceSub, List.replicate_succ, List.replicate_zero, List.cons_append, List.nil_append] at S
  refine c_seq ?_
  refine c_region ?_
  refine sq S ?_; clear S; intro a S
  refine wl_nil ?_
  refine xtn ?_
  refine c_seq ?_
  refine c_region ?_
  iterate 2 (refine sq S ?_; clear S; intro a S)
  refine sr S (indexMk_c F ca q xs p n c _ hn hl (S.gl0 p) fun x hx w' hw' => hF x hx w' (S.wd.agree.trans hw')) ?_; clear S; rintro _ a w rfl S
  iterate 2 (refine sq S ?_; clear S; intro a S)
  refine wl_nil ?_
  refine xtn ?_
  refine c_ret ?_
  refine end1 S (fun _ => ?_)
  rw [idxG_any q xs 0 (by omega)]
def cov1 (m x : LMark) : Bool := decide (x.key = m.key) && decide (m.ver ≤ x.ver)
theorem covers11_c (b : Nat) (m x : LMark) (w0 : World) (hb : Stable (fun _ => False) w0 (BoxF b 36 [str m.key, .int .i64 m.ver])) : Ret Tryd.prog 32 [vMark x, .pointer (some ⟨b, 0, none⟩)] w0 (fun _ => False) fun v _ => v = .bool (cov1 m x) := by
  refine enter Tryd.func32 rfl rfl (Wd.begin (fs := [BoxF b 36 [str m.key, .int .i64 m.ver]]) (by simpa using hb)) (fun a S => ?_)
  simp only [Tryd.ntmps32, List.length_cons, List.length_nil, Nat.reduceAdd, Nat.reduceSub, List.replicate_succ, List.replicate_zero, List.cons_append, List.nil_append] at S
  refine c_seq ?_
  refine c_region ?_
  refine sa S ?_; clear S; intro b2 a w S
  refine sq S ?_; clear S; intro a S
  refine wl_nil ?_
  refine xtn ?_
  refine c_seq ?_
  refine c_region ?_
  iterate 6 (refine sq S ?_; clear S; intro a S)
  iterate 5 (refine gQ S ?_; clear S; intro a S)
  iterate 2 (refine sq S ?_; clear S; intro a S)
  refine wl_nil ?_
  refine xtn ?_
  refine c_ret ?_
  refine end1 S (fun _ => ?_)
  first | rfl | simp [cov1]
theorem covers1_c (b : Nat) (m : LMark) (now : List LMark) (q : Option Addr) (n e : Nat) (w0 : World) (hn : now.length = n) (hl : n ≤ 1000000) (hb : Stable (fun _ => False) w0 (BoxF b 23 [.slice q n e])) (hx : Stable (fun _ => False) w0 (GlF q now)) : Ret Tryd.prog 30 [vMark m, .pointer (some ⟨b, 0, none⟩)] w0 (fun _ => False) fun v _ => v = .bool (!now.any (cov1 m)) := by
  refine enter Tryd.func30 rfl rfl (Wd.begin (fs := [BoxF b 23 [.slice q n e], GlF q now]) (by simp; exact ⟨hb, hx⟩)) (fun a S => ?_)
  simp only [Tryd.ntmps30, List.length_cons, List.length_nil, Nat.reduceAdd, Nat.reduceSub, List.replicate_succ, List.replicate_zero, List.cons_append, List.nil_append] at S
  refine c_seq ?_
  refine c_region ?_
  refine sa S ?_; clear S; intro b2 a w S
  refine sq S ?_; clear S; intro a S
  refine wl_nil ?_
  refine xtn ?_
  refine c_seq ?_
  refine c_region ?_
  iterate 2 (refine sq S ?_; clear S; intro a S)
  have hbx := BoxF.stable (M := fun _ => False) (S.boxF b2) (fun h => h)
  refine sr S (containsMk_c 32 [.pointer (some ⟨b2, 0, none⟩)] (cov1 m) now q n e _ hn (by omega) (S.gl0 q) (fun x _ w' hw' => covers11_c b2 m x w' (hbx.later hw'))) ?_; clear S; rintro _ a w rfl S
  iterate 2 (refine sq S ?_; clear S; intro a S)
  refine wl_nil ?_
  refine xtn ?_
  refine c_ret ?_
  refine end1 S (fun _ => rfl)
theorem covers_c (old now : List LMark) (p q : Option Addr) (c e : Nat) (w0 : World) (hl : old.length ≤ 1000000) (hl2 : now.length ≤ 1000000) (hx : Stable (fun _ => False) w0 (GlF p old)) (hy : Stable (fun _ => False) w0 (GlF q now)) :
    Ret Tryd.prog 13 [.slice p old.length c, .slice q now.length e] w0 (fun _ => False) fun v _ => v = .bool (!old.any fun m => !now.any (cov1 m)) := by
  refine enter Tryd.func13 rfl rfl (Wd.begin (fs := [GlF p old, GlF q now]) (by simp; exact ⟨hx, hy⟩)) (fun a S => ?_)
  simp only [Tryd.ntmps13, List.length_cons, List.length_nil, Nat.reduceAdd, Nat.reduceSub, List.replicate_succ, List.replicate_zero, List.cons_append, List.nil_append] at S
  refine c_seq ?_
  refine c_region ?_
  refine sa S ?_; clear S; intro b3 a w S
  refine sq S ?_; clear S; intro a S
  refine wl_nil ?_
  refine xtn ?_
  refine c_seq ?_
  refine c_region ?_
  iterate 2 (refine sq S ?_; clear S; intro a S)
  refine wl_nil ?_
  refine xtn ?_
  refine c_seq ?_
  refine c_region ?_
  iterate 2 (refine sq S ?_; clear S; intro a S)
  have hbx := BoxF.stable (M := fun _ => False) (S.boxF b3) (fun h => h)
  have hqx := S.gl0 q
  refine sr S (containsMk_c 30 [.pointer (some ⟨b3, 0, none⟩)] (fun m => !now.any (cov1 m)) old p old.length c _ rfl (by omega) (S.gl0 p) (fun x _ w' hw' => covers1_c b3 x now q now.length e w' rfl hl2 (hbx.later hw') (hqx.later hw'))) ?_; clear S; rintro _ a w rfl S
  iterate 2 (refine sq S ?_; clear S; intro a S)
  refine wl_nil ?_
  refine xtn ?_
  refine c_ret ?_
  refine end1 S (fun _ => rfl)
/-! what was seen -/
structure LSeen where
  user : Int
  cnt : Int
  root : LTerm
abbrev cSeen (s : LSeen) : List Value := [.int .i64 s.user, .int .i64 s.cnt, .int .i64 s.root.kind, .int .i64 s.root.user, .int .i64 s.root.num, str s.root.text, .slice s.root.p s.root.kids.length s.root.cap]
instance encSeen : Enc LSeen := ⟨7, cSeen, fun _ => rfl, fun x u hu => by simp only [List.mem_cons, List.not_mem_nil, or_false] at hu; rcases hu with rfl | rfl | rfl | rfl | rfl | rfl | rfl <;> rfl⟩
instance laySeen : Lay LSeen := { encSeen with
  dflt := ⟨0, 0, zeroL⟩
  inn := fun w s => LtIn w s.root
  mono := fun w w' s h hw => LtIn.mono h s.root hw }
instance : SzE LSeen 7 := ⟨rfl, by decide⟩
instance {s : LSeen} : CellsOf s (cSeen s) := ⟨rfl⟩
theorem fcheck_nil (c : Nat) (p : Option Addr) (w0 : World) : Ret Tryd.prog 25 [.slice p 0 c] w0 (fun _ => False) fun v _ => v = .int .i64 0 := by
  refine enter Tryd.func25 rfl rfl (Wd.start w0) (fun a S => ?_)
  simp only [Tryd.ntmps25, List.length_cons, List.length_nil, Nat.reduceAdd, Nat.reduceSub, List.replicate_succ, List.replicate_zero, List.cons_append, List.nil_append] at S
  refine c_seq ?_
  refine c_region ?_
  refine sq S ?_; clear S; intro a S
  refine wl_nil ?_
  refine xtn ?_
  refine c_seq ?_
  refine c_region ?_
  refine sq S ?_; clear S; intro a S
  refine wl_nil ?_
  refine xtn ?_
  iterate 2 (refine c_seq ?_)
  refine c_region ?_
  iterate 2 (refine sq S ?_; clear S; intro a S)
  rw [show (((0 : Nat) : Int)) = 0 from rfl] at S
  refine sq S ?_; clear S; intro a S
  refine wl_nil ?_
  refine xtn ?_
  refine c_block ?_
  refine c_forb1 S (fun (k : Nat) uu => [(2, uu 2), (0, uu 3), (1, uu 5), (2, .int .i64 0), (0, uu 9), (0, uu 10), (0, uu 11), (0, uu 12), (0, uu 13), (0, uu 14), (0, uu 15), (0, uu 16), (0, uu 17), (0, uu 18), (0, uu 19), (0, uu 20), (0, uu 21), (0, uu 22), (0, uu 23), (0, uu 24), (0, uu 25), (0, uu 26), (0, uu 27), (0, uu 28), (0, uu 29), (0, uu 30), (0, uu 31), (0, uu 32), (0, uu 33), (0, uu 34), (0, uu 35), (0, uu 36)]) (fun (k : Nat) => True) (fun (k : Nat) => 0) (0) ?_ S.uu ?_ ?_
  · exact trivial
  · first | exact S | exact S.sub _ _
  · clear S; rintro k uu a w - S
    refine c_seq ?_
    refine c_region ?_
    refine sq S ?_; clear S; intro a S
    rw [show decide ((0 : Int) < 0) = false from rfl] at S
    refine wl_nil ?_
    refine xtn ?_
    refine c_seq ?_
    refine c_condF S ?_
    refine c_exit ?_
    iterate 2 (refine xte ?_)
    refine xbe ?_
    refine xtn ?_
    refine c_seq ?_
    refine c_region ?_
    refine sq S ?_; clear S; intro a S
    refine wl_nil ?_
    refine xtn ?_
    refine c_ret ?_
    refine end1 S (fun _ => rfl)
theorem fclone_nil (c : Nat) (w0 : World) : Ret Tryd.prog 27 [.slice none 0 c] w0 (fun _ => False) fun v _ => v = .slice none 0 0 := by
  refine enter Tryd.func27 rfl rfl (Wd.start w0) (fun a S => ?_)
  simp only [Tryd.ntmps27, List.length_cons, List.length_nil, Nat.reduceAdd, Nat.reduceSub, List.replicate_succ, List.replicate_zero, List.cons_append, List.nil_append] at S
  refine c_seq ?_
  refine c_region ?_
  refine sq S ?_; clear S; intro a S
  refine wl_nil ?_
  refine xtn ?_
  iterate 2 (refine c_seq ?_)
  refine c_region ?_
  iterate 2 (refine sq S ?_; clear S; intro a S)
  rw [show (none : Option Addr).isNone = true from rfl] at S
  refine wl_nil ?_
  refine xtn ?_
  refine c_condT S ?_
  refine c_seq ?_
  refine c_region ?_
  refine sq S ?_; clear S; intro a S
  refine wl_nil ?_
  refine xtn ?_
  refine c_ret ?_
  refine xtr ?_
  refine end1 S (fun _ => rfl)
theorem fbs_nil (c : Nat) (u : Int) (w0 : World) : Ret Tryd.prog 45 [.slice none 0 c, .int .i64 u, .func (.func 46) #[] #[]] w0 (fun _ => False) fun v _ => v = .tuple ⟨[.int .i64 0, .bool false]⟩ := by
  refine enter Tryd.func45 rfl rfl (Wd.start w0) (fun a S => ?_)
  simp only [Tryd.ntmps45, List.length_cons, List.length_nil, Nat.reduceAdd, Nat.reduceSub, List.replicate_succ, List.replicate_zero, List.cons_append, List.nil_append] at S
  refine c_seq ?_
  refine c_region ?_
  iterate 2 (refine sq S ?_; clear S; intro a S)
  refine wl_nil ?_
  refine xtn ?_
  refine c_seq ?_
  refine c_region ?_
  iterate 2 (refine sq S ?_; clear S; intro a S)
  rw [show (((0 : Nat) : Int)) = 0 from rfl] at S
  refine sq S ?_; clear S; intro a S
  refine wl_nil ?_
  refine xtn ?_
  refine c_seq ?_
  refine c_region ?_
  iterate 3 (refine sq S ?_; clear S; intro a S)
  refine wl_nil ?_
  refine xtn ?_
  refine c_seq ?_
  refine c_block ?_
  refine c_forb1 S (fun (k : Nat) uu => [(9, .int .i64 0), (0, .int .i64 0), (0, uu 11), (3, uu 15), (0, uu 16), (0, uu 17), (0, uu 18), (0, uu 19), (0, uu 20), (0, uu 21), (0, uu 22), (0, uu 23), (0, uu 24), (0, uu 25), (0, uu 26), (0, uu 27), (0, uu 28), (0, uu 29), (0, uu 30), (0, uu 31), (0, uu 32), (0, uu 33), (0, uu 34)]) (fun (k : Nat) => True) (fun (k : Nat) => 0) (0) ?_ S.uu ?_ ?_
  · exact trivial
  · first | exact S | exact S.sub _ _
  · clear S; rintro k uu a w - S
    iterate 2 (refine c_seq ?_)
    refine c_region ?_
    iterate 3 (refine sq S ?_; clear S; intro a S)
    rw [show decide ((0 : Int) < 0) = false from rfl] at S
    refine wl_nil ?_
    refine xtn ?_
    refine c_condF S ?_
    refine c_exit ?_
    iterate 2 (refine xte ?_)
    refine xbe ?_
    refine xtn ?_
    refine c_seq ?_
    refine c_region ?_
    iterate 4 (refine sq S ?_; clear S; intro a S)
    rw [show decide ((0 : Int) < 0) = false from rfl] at S
    refine sq S ?_; clear S; intro a S
    iterate 8 (refine gF S ?_; clear S; intro a S)
    iterate 3 (refine sq S ?_; clear S; intro a S)
    refine wl_nil ?_
    refine xtn ?_
    refine c_ret ?_
    refine end2 S (fun _ => rfl)
theorem ffind_nil (c : Nat) (u : Int) (w0 : World) : Ret Tryd.prog 26 [.slice none 0 c, .int .i64 u] w0 (fun _ => False) fun v _ => v = .tuple ⟨[.int .i64 0, .bool false]⟩ := by
  refine enter Tryd.func26 rfl rfl (Wd.start w0) (fun a S => ?_)
  simp only [Tryd.ntmps26, List.length_cons, List.length_nil, Nat.reduceAdd, Nat.reduceSub, List.replicate_succ, List.replicate_zero, List.cons_append, List.nil_append] at S
  refine c_seq ?_
  refine c_region ?_
  iterate 2 (refine sq S ?_; clear S; intro a S)
  refine wl_nil ?_
  refine xtn ?_
  refine c_seq ?_
  refine c_region ?_
  iterate 2 (refine sq S ?_; clear S; intro a S)
  refine sr S (fbs_nil c u _) ?_; clear S; rintro _ a w rfl S
  iterate 4 (refine sq S ?_; clear S; intro a S)
  refine wl_nil ?_
  refine xtn ?_
  refine c_ret ?_
  refine end2 S (fun _ => rfl)
theorem finsert_nil (c : Nat) (q : Option Addr) (s : LSeen) (w0 : World) (hs : Stable (fun _ => False) w0 (GlF q [s])) : Ret Tryd.prog 29 [.slice none 0 0, .int .i64 0, .slice q 1 c] w0 (fun _ => False) fun v w' => ∃ p' c', v = .slice p' 1 c' ∧ w'.ownsRow 0 46 7 (.slice p' 1 c') 1 (encL [s]) ∧ ∀ ad, p' = some ad → w0.heap.size ≤ ad.block := by
  refine enter Tryd.func29 rfl rfl (Wd.begin (fs := [GlF q [s]]) (by simpa using hs)) (fun a S => ?_)
  simp only [Tryd.ntmps29, List.length_cons, List.length_nil, Nat.reduceAdd, Nat.reduceSub, List.replicate_succ, List.replicate_zero, List.cons_append, List.nil_append] at S
  refine c_seq ?_
  refine c_region ?_
  refine sq S ?_; clear S; intro a S
  refine wl_nil ?_
  refine xtn ?_
  refine c_seq ?_
  refine c_region ?_
  iterate 2 (refine sq S ?_; clear S; intro a S)
  refine ssl S ?_ ?_ ?_ ?_; omega; omega; omega; clear S; intro a S
  refine wl_nil ?_
  refine xtn ?_
  refine c_seq ?_
  refine c_region ?_
  iterate 2 (refine sq S ?_; clear S; intro a S)
  rw [show (((1 : Nat) : Int)) = 1 from rfl] at S
  refine sq S ?_; clear S; intro a S
  refine wl_nil ?_
  refine xtn ?_
  iterate 2 (refine c_seq ?_)
  refine c_region ?_
  iterate 2 (refine sq S ?_; clear S; intro a S)
  rw [show decide ((1 : Int) = 0) = false from rfl] at S
  refine wl_nil ?_
  refine xtn ?_
  refine c_condF S ?_
  refine c_skip ?_
  refine xtn ?_
  refine c_seq ?_
  refine c_region ?_
  iterate 2 (refine sq S ?_; clear S; intro a S)
  rw [show (((0 : Nat) : Int)) = 0 from rfl] at S
  refine sq S ?_; clear S; intro a S
  refine wl_nil ?_
  refine xtn ?_
  iterate 2 (refine c_seq ?_)
  refine c_region ?_
  iterate 3 (refine sq S ?_; clear S; intro a S)
  rw [show decide ((0 : Int) = 0) = true from rfl] at S
  refine wl_nil ?_
  refine xtn ?_
  refine c_condT S ?_
  refine c_seq ?_
  refine c_region ?_
  iterate 2 (refine sq S ?_; clear S; intro a S)
  have hN : LenN [s] 1 := ⟨rfl⟩
  replace S := S.addNil 46 7
  refine sap S (by simp [maxLen]) (by omega) ?_; clear S; rintro p2 c2 a w - S
  rw [List.nil_append, Nat.zero_add] at S
  refine sq S ?_; clear S; intro a S
  refine wl_nil ?_
  refine xtn ?_
  refine c_ret ?_
  refine xtr ?_
  have hrow := S.row p2 1
  have hnew := S.rowNew p2 1
  refine end1 S (fun _ => ?_)
  exact ⟨p2, c2, rfl, hrow, fun ad h => (hnew ad h).elim (fun h => h.elim) id⟩
def AccR (M : Nat → Prop) (u : Int) (S R : Term) (v : Value) (w : World) : Prop := ∃ (n : Int) (p po : Option Addr) (c co : Nat) (ms : List LMark) (os : List LSeen) (e : Int), v = .tuple ⟨[.slice po os.length co, .slice p ms.length c, .int .i64 e]⟩ ∧ Stable M w (GlF p ms) ∧ Stable M w (GlF po os) ∧
  (e = 0 → FreshOk u n ms S R ∧ ∃ x, os = [⟨u, n, x⟩]) ∧ (e ≠ 0 → ∀ n ms, ¬ FreshOk u n ms S R)
theorem faccept_nil (u : Int) (s r : LTerm) (M : Nat → Prop) (w0 : World) (hM : ∀ k, M k → k < w0.heap.size) (ht : Stable M w0 LibF) (hs : Stable M w0 (LtF s)) (hr : Stable M w0 (LtF r)) :
    Ret Tryd.prog 12 [.slice none 0 0, .int .i64 u, vL s, vL r] w0 (fun _ => False) fun v w' => AccR M u s.t r.t v w' := by
  refine enter Tryd.func12 rfl rfl (Wd.beginM (M := M) (fs := [TabF, LibF, LtF s, LtF r]) hM (by simp; exact ⟨ht.imp fun _ h => h.1, ht, hs, hr⟩)) (fun a S => ?_)
  simp only [Tryd.ntmps12, List.length_cons, List.length_nil, Nat.reduceAdd, Nat.reduceSub, List.replicate_succ, List.replicate_zero, List.cons_append, List.nil_append] at S
  refine c_seq ?_
  refine c_region ?_
  refine sa S ?_; clear S; intro b6 a w S
  refine sa S ?_; clear S; intro b7 a w S
  iterate 3 (refine sq S ?_; clear S; intro a S)
  refine wl_nil ?_
  refine xtn ?_
  iterate 2 (refine c_seq ?_)
  refine c_region ?_
  refine sq S ?_; clear S; intro a S
  refine sr S (fcheck_nil 0 none _) ?_; clear S; rintro _ a w rfl S
  refine sq S ?_; clear S; intro a S
  refine wl_nil ?_
  refine xtn ?_
  refine c_seq ?_
  refine c_region ?_
  iterate 2 (refine sq S ?_; clear S; intro a S)
  rw [show (!decide ((0 : Int) = 0)) = false from rfl] at S
  refine wl_nil ?_
  refine xtn ?_
  refine c_condF S ?_
  refine c_skip ?_
  refine xtn ?_
  refine c_seq ?_
  refine c_region ?_
  iterate 3 (refine sq S ?_; clear S; intro a S)
  refine sr S (fread_c u s r _ w (foots_lt S) (S.mem.fact LibF) (S.t s) (S.t r)) ?_; clear S; rintro _ a w ⟨n, p, c, ms, e, rfl, hms, hc, he1, he2⟩ S
  replace S := S.add hms
  iterate 7 (refine sq S ?_; clear S; intro a S)
  refine wl_nil ?_
  refine xtn ?_
  iterate 2 (refine c_seq ?_)
  refine c_region ?_
  iterate 2 (refine sq S ?_; clear S; intro a S)
  refine wl_nil ?_
  refine xtn ?_
  refine c_cond S (fun h5 => ?_) (fun h5 => ?_)
  · refine c_seq ?_
    refine c_region ?_
    iterate 4 (refine sq S ?_; clear S; intro a S)
    refine wl_nil ?_
    refine xtn ?_
    refine c_ret ?_
    refine xtr ?_
    have hne : e ≠ 0 := by simpa using h5
    refine end3 S (fun _ => ?_)
    exact ⟨0, none, none, 0, 0, [], [], e, rfl, fun _ _ => gl_nil, fun _ _ => gl_nil, fun h => absurd h hne, fun _ => (he2 hne).2.2.2⟩
  · refine c_skip ?_
    refine xtn ?_
    refine c_seq ?_
    have he0 : e = 0 := by simpa using h5
    have hok := he1 he0
    have hml := (okM_V hok.2.1).1
    refine c_region ?_
    refine sq S ?_; clear S; intro a S
    refine sr S (troot_c ms p c _ w hc (by omega) (foots_lt S) (S.mem.fact TabF) (S.mem.fact (GlF p ms))) ?_; clear S; rintro _ a w hR S
    obtain ⟨q, hq, hqt, hqf⟩ := hR.yes hok.2.1
    subst hq
    replace S := S.add hqf
    iterate 3 (refine sq S ?_; clear S; intro a S)
    refine sa S ?_; clear S; intro b15 a w S
    refine sw S ?_; clear S; intro a w S
    refine sq S ?_; clear S; intro a S
    refine wl_nil ?_
    refine xtn ?_
    refine c_seq ?_
    refine c_region ?_
    iterate 2 (refine sq S ?_; clear S; intro a S)
    refine sr S (ffind_nil 0 u _) ?_; clear S; rintro _ a w rfl S
    iterate 5 (refine sq S ?_; clear S; intro a S)
    refine wl_nil ?_
    refine xtn ?_
    refine c_seq ?_
    refine c_block ?_
    refine c_seq ?_
    refine c_region ?_
    iterate 2 (refine sq S ?_; clear S; intro a S)
    rw [show (!false) = true from rfl] at S
    refine sq S ?_; clear S; intro a S
    refine wl_nil ?_
    refine xtn ?_
    refine c_condT S ?_
    refine c_skip ?_
    refine xbn ?_
    refine xtn ?_
    refine c_seq ?_
    refine c_region ?_
    refine sq S ?_; clear S; intro a S
    refine sr S (fclone_nil 0 _) ?_; clear S; rintro _ a w rfl S
    refine sq S ?_; clear S; intro a S
    refine wl_nil ?_
    refine xtn ?_
    iterate 2 (refine c_seq ?_)
    refine c_region ?_
    iterate 2 (refine sq S ?_; clear S; intro a S)
    rw [show (((0 : Nat) : Int)) = 0 from rfl] at S
    refine sq S ?_; clear S; intro a S
    refine wl_nil ?_
    refine xtn ?_
    refine c_block ?_
    refine c_forb1 S (fun (k : Nat) uu => [(20, uu 20), (60, .int .i64 0), (0, uu 82), (0, uu 83), (0, uu 84), (0, uu 85), (0, uu 86), (0, uu 87), (0, uu 88), (0, uu 89), (0, uu 90), (0, uu 91), (0, uu 92), (0, uu 93), (0, uu 94)]) (fun (k : Nat) => True) (fun (k : Nat) => 0) (0) ?_ S.uu ?_ ?_
    · exact trivial
    · first | exact S | exact S.sub _ _
    · clear S; rintro k uu a w - S
      refine c_seq ?_
      refine c_region ?_
      refine sq S ?_; clear S; intro a S
      rw [show decide ((0 : Int) < 0) = false from rfl] at S
      refine wl_nil ?_
      refine xtn ?_
      refine c_seq ?_
      refine c_condF S ?_
      refine c_exit ?_
      iterate 2 (refine xte ?_)
      refine xbe ?_
      refine xtn ?_
      iterate 2 (refine c_seq ?_)
      refine c_region ?_
      iterate 2 (refine sq S ?_; clear S; intro a S)
      rw [show (!false) = true from rfl] at S
      refine wl_nil ?_
      refine xtn ?_
      refine c_condT S ?_
      refine c_region ?_
      iterate 3 (refine sq S ?_; clear S; intro a S)
      refine sn S ?_; clear S; intro b100 a w S
      replace S := S.boxRow b100 7 1 rfl (by simp [maxLen])
      rw [show ([.int .i64 0, .int .i64 0, .int .i64 0, .int .i64 0, .int .i64 0, .string ⟨#[]⟩, .slice none 0 0] : List Value) = encL [(⟨0, 0, zeroL⟩ : LSeen)] from rfl] at S
      replace S := S.rowToGl (some ⟨b100, 0, none⟩) [(⟨0, 0, zeroL⟩ : LSeen)] (e := 46) (sz := 7) (n := 1) (c := 1) (AllI.snoc (L := []) AllI.nil (fun _ _ => zeroL_in _))
      refine srn S (finsert_nil 1 (some ⟨b100, 0, none⟩) ⟨0, 0, zeroL⟩ _ (S.mem.fact0 (GlF (some ⟨b100, 0, none⟩) [(⟨0, 0, zeroL⟩ : LSeen)]))) ?_; clear S; rintro _ a w ⟨p', c', rfl, hown, hnew⟩ hS -
      have S := hS hown hnew
      clear hS
      have hK1 : KLt 0 1 := ⟨by omega⟩
      refine sq S ?_; clear S; intro a S
      refine wl_nil ?_
      refine xtn ?_
      refine c_seq ?_
      refine c_region ?_
      iterate 7 (refine sq S ?_; clear S; intro a S)
      refine sws S 1 (by omega) (by omega) ?_; clear S; intro a w S
      rw [show (encL [(⟨0, 0, zeroL⟩ : LSeen)]).take 0 ++ [.int .i64 u, .int .i64 n, .int .i64 q.kind, .int .i64 q.user, .int .i64 q.num, str q.text, .slice q.p q.kids.length q.cap] ++ (encL [(⟨0, 0, zeroL⟩ : LSeen)]).drop (0 + ([.int .i64 u, .int .i64 n, .int .i64 q.kind, .int .i64 q.user, .int .i64 q.num, str q.text, .slice q.p q.kids.length q.cap] : List Value).length) = encL [(⟨u, n, q⟩ : LSeen)] from rfl] at S
      refine wl_nil ?_
      refine xtn ?_
      refine c_seq ?_
      refine c_region ?_
      iterate 5 (refine sq S ?_; clear S; intro a S)
      refine wl_nil ?_
      refine xtn ?_
      refine c_ret ?_
      have hrow := S.row p' 1
      have hnew := S.rowNew p' 1
      have hq2 := S.laterT (M := M) q
      have hm2 := S.laterFact (M := M) (Φ := GlF p ms) (by simp)
      refine end3 S (fun _ => ?_)
      refine ⟨n, p, p', c, c', ms, [⟨u, n, q⟩], 0, rfl, hm2, ?_, fun _ => ⟨hok, q, rfl⟩, fun h => absurd rfl h⟩
      exact gl_own hrow (AllI.snoc (L := []) AllI.nil hq2) (fun ad h hm => (hnew ad h).elim id (fun h2 => by have := hM _ hm; omega))
instance {p : Option Addr} {n c : Nat} {xs : List LMark} {bs fs} [hg : HasG fs p LMark layMark xs] [hn : LenN xs n] [hk : LeC n 1000000] : CallV Tryd.prog 13 [.slice p n c, .slice none 0 0] bs fs (.bool (!xs.any fun _ => true)) := ⟨fun w m => by
  have hk' := hk.le
  have hn' := hn.eq
  subst hn'
  exact covers_c xs [] p none c 0 w hk' (by simp) ((hg.of _ _ m.facts).less fun _ _ h => h.elim) (fun _ _ => gl_nil)⟩
def mkL : List LMark := [⟨[97], 1⟩]
theorem mk_ok : okM mkL = true := by decide
theorem wakes16_c (w0 : World) (ht : Stable (fun _ => False) w0 LibF) : Ret Tryd.prog 5 [] w0 (fun _ => False) fun v _ => v = .bool true := by
  refine enter Tryd.func5 rfl rfl (Wd.begin (fs := [TabF, LibF]) (by simp; exact ⟨ht.imp fun _ h => h.1, ht⟩)) (fun a S => ?_)
  simp only [Tryd.ntmps5, List.length_cons, List.length_nil, Nat.reduceAdd, Nat.reduceSub, List.replicate_succ, List.replicate_zero, List.cons_append, List.nil_append] at S
  refine c_seq ?_
  refine c_region ?_
  refine sq S ?_; clear S; intro a S
  refine wl_nil ?_
  refine xtn ?_
  refine c_seq ?_
  refine c_region ?_
  refine sq S ?_; clear S; intro a S
  refine sn S ?_; clear S; intro b15 a w S
  refine sq S ?_; clear S; intro a S
  refine wl_nil ?_
  refine xtn ?_
  refine c_seq ?_
  refine c_region ?_
  refine sq S ?_; clear S; intro a S
  replace S := S.boxRow b15 2 1 rfl (by simp [maxLen])
  rw [show ([str [97], .int .i64 1] : List Value) = encL mkL from rfl] at S
  replace S := S.rowToGl (some ⟨b15, 0, none⟩) mkL (e := 36) (sz := 2) (n := 1) (c := 1) (AllI.snoc (L := []) AllI.nil (fun _ _ => trivial))
  refine sr S (publish_c 1 0 5 mkL (some ⟨b15, 0, none⟩) 1 _ w (by decide) (by decide) (foots_lt S) (S.mem.fact TabF) (S.mem.fact (GlF (some ⟨b15, 0, none⟩) mkL))) ?_; clear S; rintro _ a w ⟨t, x, e, rfl, htf, hxf, he, hy, -⟩ S
  obtain rfl : e = 0 := he
  obtain ⟨-, -, -, -, ht1, hx1⟩ := hy rfl
  have hok : FreshOk 1 5 mkL t.t x.t := ⟨by decide, mk_ok, by rw [ht1]; exact good_rooted (by decide) (by decide) (by decide) mk_ok, ⟨0, ht1⟩, hx1, by rw [hx1]; exact good_write (okM_V mk_ok).1 (okM_V mk_ok).2⟩
  replace S := (S.add htf).add hxf
  iterate 4 (refine sq S ?_; clear S; intro a S)
  refine sa S ?_; clear S; intro b2 a w S
  refine sa S ?_; clear S; intro b3 a w S
  iterate 2 (refine sw S ?_; clear S; intro a w S)
  refine sq S ?_; clear S; intro a S
  refine wl_nil ?_
  refine xtn ?_
  refine c_seq ?_
  refine c_region ?_
  iterate 2 (refine sq S ?_; clear S; intro a S)
  refine sr S (fread_c 1 t x _ w (foots_lt S) (S.mem.fact LibF) (S.t t) (S.t x)) ?_; clear S; rintro _ a w ⟨n1, p1, c1, m1, e1, rfl, hm1, -, h1a, h1b⟩ S
  have he1 : e1 = 0 := Classical.byContradiction fun h => (h1b h).2.2.2 _ _ hok
  obtain ⟨rfl, rfl⟩ := (h1a he1).uniq hok
  subst he1
  replace S := S.add hm1
  iterate 7 (refine sq S ?_; clear S; intro a S)
  refine wl_nil ?_
  refine xtn ?_
  refine c_seq ?_
  refine c_region ?_
  iterate 2 (refine sq S ?_; clear S; intro a S)
  refine sr S (faccept_nil 1 t x _ w (foots_lt S) (S.mem.fact LibF) (S.t t) (S.t x)) ?_; clear S; rintro _ a w ⟨n2, p2, po, c2, co, m2, os, e2, rfl, hm2, hos, h2a, h2b⟩ S
  have he2 : e2 = 0 := Classical.byContradiction fun h => h2b h _ _ hok
  obtain ⟨hok2, y, rfl⟩ := h2a he2
  obtain ⟨rfl, rfl⟩ := hok2.uniq hok
  subst he2
  replace S := S.add hos
  iterate 7 (refine sq S ?_; clear S; intro a S)
  refine wl_nil ?_
  refine xtn ?_
  refine c_seq ?_
  refine c_region ?_
  iterate 2 (refine sq S ?_; clear S; intro a S)
  refine sr S (fread_c 2 t x _ w (foots_lt S) (S.mem.fact LibF) (S.t t) (S.t x)) ?_; clear S; rintro _ a w ⟨n3, p3, c3, m3, e3, rfl, hm3, -, h3a, h3b⟩ S
  have he3 : e3 = 251 := by
    refine (h3b fun h => ?_).1
    have := (h3a h).user hok
    omega
  subst he3
  iterate 7 (refine sq S ?_; clear S; intro a S)
  refine wl_nil ?_
  refine xtn ?_
  refine c_seq ?_
  have hK1 : KLt 0 ([(⟨1, 5, y⟩ : LSeen)]).length := ⟨by simp⟩
  have hN1 : LenN mkL 1 := ⟨rfl⟩
  have hL1 : LeC 1 1000000 := ⟨by omega⟩
  refine c_region ?_
  iterate 3 (refine sq S ?_; clear S; intro a S)
  iterate 2 (refine gQ S ?_; clear S; intro a S)
  iterate 2 (refine sq S ?_; clear S; intro a S)
  iterate 2 (refine gQ S ?_; clear S; intro a S)
  iterate 2 (refine sq S ?_; clear S; intro a S)
  iterate 2 (refine gQ S ?_; clear S; intro a S)
  iterate 2 (refine sq S ?_; clear S; intro a S)
  iterate 2 (refine gQ S ?_; clear S; intro a S)
  iterate 2 (refine sq S ?_; clear S; intro a S)
  iterate 3 (refine gQ S ?_; clear S; intro a S)
  iterate 2 (refine sq S ?_; clear S; intro a S)
  iterate 3 (refine gQ S ?_; clear S; intro a S)
  iterate 2 (refine sq S ?_; clear S; intro a S)
  iterate 5 (refine gQ S ?_; clear S; intro a S)
  iterate 2 (refine sq S ?_; clear S; intro a S)
  refine gQ S ?_; clear S; intro a S
  refine gC S ?_; clear S; intro a w S
  refine gQ S ?_; clear S; intro a S
  iterate 2 (refine sq S ?_; clear S; intro a S)
  refine wl_nil ?_
  refine xtn ?_
  refine c_ret ?_
  refine end1 S (fun _ => ?_)
  simp [mkL, nthG]
end Go.Proofs.YtmngicgdgpimlaaDoor
