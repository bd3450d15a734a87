/- 3: a part of this claim's texts, joined: PermA RefSame RowRegress RowBase SortI TermG PlainList W6 CapA CapB PlainCap CapC CapD CapE CapF TermH MetaA TreeA TreeB PlainTree TreeC TreeD TreeE TreeF LaidA PlainTreeB TreeG. -/
import Derived.Test.YtibkkbknnfehlaaGreatDoorPb2
import Derived.Test.YtibkkbknnfehlaaGreatDoorRows
import Derived.LaidLaws
import Derived.LaidHandle
import Derived.Stop.LaidErr
import Derived.Deep.DeepLaidRun
import Derived.Lib.ItoaLen
import Derived.Laws.StructEq
namespace Go.Proofs.YtibkkbknnfehlaaGreatDoor
open Go Go.Wk
set_option synthInstance.maxSize 100000
set_option synthInstance.maxHeartbeats 400000
set_option maxRecDepth 100000
structure LPerm where
  owner : Int
  epoch : Int
  rd : Sl Int
  wr : Sl Int
  gr : Sl Int
instance encPerm : Enc LPerm := ⟨5, fun p => [.int .i64 p.owner, .int .i64 p.epoch, p.rd.v, p.wr.v, p.gr.v], fun _ => rfl, fun x u hu => by simp only [List.mem_cons, List.not_mem_nil, or_false] at hu; rcases hu with rfl | rfl | rfl | rfl | rfl <;> rfl⟩
instance layPerm : Lay LPerm := { encPerm with
  dflt := ⟨0, 0, ⟨none, 0, []⟩, ⟨none, 0, []⟩, ⟨none, 0, []⟩⟩
  inn := fun w p => Lay.inn w p.rd ∧ Lay.inn w p.wr ∧ Lay.inn w p.gr
  mono := fun w w' _x h hx => ⟨Lay.mono w w' _ h hx.1, Lay.mono w w' _ h hx.2.1, Lay.mono w w' _ h hx.2.2⟩ }
abbrev cPerm (p : LPerm) : List Value := [.int .i64 p.owner, .int .i64 p.epoch, .slice p.rd.p p.rd.xs.length p.rd.cap, .slice p.wr.p p.wr.xs.length p.wr.cap, .slice p.gr.p p.gr.xs.length p.gr.cap]
abbrev vPerm (p : LPerm) : Value := .agg ⟨[.int .i64 p.owner, .int .i64 p.epoch, .slice p.rd.p p.rd.xs.length p.rd.cap, .slice p.wr.p p.wr.xs.length p.wr.cap, .slice p.gr.p p.gr.xs.length p.gr.cap]⟩
instance (priority := 850) hasi_prd {fs : List (World → Prop)} {p : LPerm} [h : HasI fs p] : HasI fs p.rd := ⟨fun M w hf => (h.of M w hf).imp fun _ h => h.1⟩
instance (priority := 850) hasi_pwr {fs : List (World → Prop)} {p : LPerm} [h : HasI fs p] : HasI fs p.wr := ⟨fun M w hf => (h.of M w hf).imp fun _ h => h.2.1⟩
instance (priority := 850) hasi_pgr {fs : List (World → Prop)} {p : LPerm} [h : HasI fs p] : HasI fs p.gr := ⟨fun M w hf => (h.of M w hf).imp fun _ h => h.2.2⟩
def okU (u : Int) : Bool := decide (1 ≤ u) && decide (u ≤ 6)
def okG (u : Int) : Bool := decide (1 ≤ u) && decide (u ≤ 3)
theorem puser_c (u : Int) (w0 : World) : Ret Tryz.prog 78 [.int .i64 u] w0 (fun _ => False) fun v _ => v = .bool (okU u) := by
  refine enter Tryz.func78 rfl rfl (Wd.start w0) (fun a S => ?_)
  simp only [Tryz.ntmps78, List.length_cons, List.length_nil, Nat.reduceAdd, Nat.reduceSub, List.replicate_succ, List.replicate_zero, List.cons_append, List.nil_append] at S
  refine c_seq ?_; refine c_region ?_; refine sq S ?_; clear S; intro a S; refine wl_nil ?_; refine xtn ?_; refine c_seq ?_; refine c_region ?_; (iterate 3 (refine sq S ?_; clear S; intro a S)); (iterate 2 (refine gQ S ?_; clear S; intro a S)); (iterate 2 (refine sq S ?_; clear S; intro a S)); refine wl_nil ?_; refine xtn ?_; refine c_ret ?_
  refine end1 S (fun _ => rfl)
instance {u : Int} {bs fs} : CallV Tryz.prog 78 [.int .i64 u] bs fs (.bool (okU u)) := ⟨fun w _ => puser_c u w⟩
theorem pgroup_c (u : Int) (w0 : World) : Ret Tryz.prog 80 [.int .i64 u] w0 (fun _ => False) fun v _ => v = .bool (okG u) := by
  refine enter Tryz.func80 rfl rfl (Wd.start w0) (fun a S => ?_)
  simp only [Tryz.ntmps80, List.length_cons, List.length_nil, Nat.reduceAdd, Nat.reduceSub, List.replicate_succ, List.replicate_zero, List.cons_append, List.nil_append] at S
  refine c_seq ?_; refine c_region ?_; refine sq S ?_; clear S; intro a S; refine wl_nil ?_; refine xtn ?_; refine c_seq ?_; refine c_region ?_; (iterate 3 (refine sq S ?_; clear S; intro a S)); (iterate 2 (refine gQ S ?_; clear S; intro a S)); (iterate 2 (refine sq S ?_; clear S; intro a S)); refine wl_nil ?_; refine xtn ?_; refine c_ret ?_
  refine end1 S (fun _ => rfl)
def risF (q : Int → Bool) : Option Int → List Int → Bool
  | _, [] => true
  | o, x :: xs => (q x && (match o with | none => true | some y => decide (y < x))) && risF q (some x) xs
theorem risF_cons (q : Int → Bool) (o : Option Int) (x : Int) (xs : List Int) : risF q o (x :: xs) = ((q x && (match o with | none => true | some y => decide (y < x))) && risF q (some x) xs) := rfl
def lastG (xs : List Int) : Nat → Option Int
  | 0 => none
  | j + 1 => some (nthG xs j)
theorem rising_c (F : Nat) [EntF Tryz.prog F] (ca : List Value) (q : Int → Bool) (xs : List Int) (p : Option Addr) (n c : Nat) (w0 : World) (hn : xs.length = n) (hl : n ≤ 9223372036854775807) (hx : Stable (fun _ => False) w0 (GlF p xs))
    (hF : ∀ x ∈ xs, ∀ w, Agree (fun _ => False) w0 w → Ret Tryz.prog F (.int .i64 x :: ca) w (fun _ => False) fun v _ => v = .bool (q x)) :
    Ret Tryz.prog 79 [.slice p n c, .func (.func F) #[] ⟨ca⟩] w0 (fun _ => False) fun v _ => v = .bool (risF q none xs) := by
  subst hn
  refine enter Tryz.func79 rfl rfl (Wd.begin (fs := [GlF p xs]) (by simpa using hx)) (fun a S => ?_)
  simp only [Tryz.ntmps79, List.length_cons, List.length_nil, Nat.reduceAdd, Nat.reduceSub, List.replicate_succ, List.replicate_zero, List.cons_append, List.nil_append] at S
  refine c_seq ?_; refine c_region ?_; refine sq S ?_; clear S; intro a S; refine wl_nil ?_; refine xtn ?_; (iterate 2 (refine c_seq ?_)); refine c_region ?_; (iterate 3 (refine sq S ?_; clear S; intro a S)); refine wl_nil ?_; refine xtn ?_; refine c_block ?_
  refine c_forb1 S (fun (k : Nat) uu => [(4, uu 4), (0, uu 5), (0, uu 6), (2, .int .i64 (k : Nat)), (0, uu 10), (0, uu 11), (0, uu 12), (0, uu 13), (0, uu 14), (0, uu 15), (0, uu 16), (0, uu 17), (0, uu 18), (0, uu 19), (0, uu 20), (0, uu 21), (0, uu 22), (0, uu 23), (0, uu 24), (0, uu 25), (0, uu 26), (0, uu 27), (0, uu 28), (0, uu 29), (0, uu 30), (0, uu 31)]) (fun (k : Nat) => k ≤ xs.length ∧ risF q (lastG xs k) (xs.drop k) = risF q none xs) (fun (k : Nat) => xs.length - k) (0) ?_ S.uu ?_ ?_
  · exact ⟨Nat.zero_le _, rfl⟩
  · first | exact S | exact S.sub _ _
  · clear S; rintro k uu a w ⟨hk, hrel⟩ S
    refine c_seq ?_; refine c_region ?_; refine sq S ?_; clear S; intro a S; refine wl_nil ?_; refine xtn ?_; refine c_seq ?_
    refine c_cond S (fun h2 => ?_) (fun h2 => ?_)
    · refine c_skip ?_; refine xtn ?_; refine c_seq ?_; refine c_block ?_; refine c_seq ?_
      have hkl : k < xs.length := by simp at h2; omega
      have hK : KLt k xs.length := ⟨hkl⟩
      rw [nthG_drop hkl, risF_cons] at hrel
      refine c_region ?_; (iterate 5 (refine sq S ?_; clear S; intro a S)); refine wl_nil ?_; refine xtn ?_; refine c_seq ?_; refine c_region ?_; (iterate 2 (refine sq S ?_; clear S; intro a S))
      refine sr S (hF (nthG xs k) (nthG_mem hkl) w S.wd.agree) ?_; clear S; rintro _ a w rfl S
      (iterate 2 (refine sq S ?_; clear S; intro a S))
      refine gS S (fun hb1 S => ?_) (fun hb1 S => ?_)
      · refine gF' S ?_; clear S; intro a S; (iterate 2 (refine gF' S ?_; clear S; intro a S)); (iterate 7 (refine gU S ?_; clear S; intro a S)); refine gF' S ?_; clear S; intro a S; refine sq S ?_; clear S; intro a S; refine wl_nil ?_; refine xtn ?_; refine c_condT S ?_; refine c_seq ?_; refine c_region ?_; refine sq S ?_; clear S; intro a S; refine wl_nil ?_; refine xtn ?_; refine c_ret ?_; refine xbr ?_
        (iterate 2 (refine xtr ?_)); refine xbr ?_; refine xtr ?_
        have e : q (nthG xs k) = false := by simpa using hb1
        refine end1 S (fun _ => ?_)
        rw [← hrel, e]; rfl
      · refine gT' S ?_; refine sq S ?_; clear S; intro a S; refine gT' S ?_; refine sq S ?_; clear S; intro a S; refine gT' S ?_; refine sq S ?_; clear S; intro a S
        refine gS S (fun hb2 S => ?_) (fun hb2 S => ?_)
        · refine gT S ?_; refine sq S ?_; clear S; intro a S; refine gT S ?_; refine sq S ?_; clear S; intro a S; refine gT S ?_
          have hk0 : 0 < k := by simp at hb2; omega
          have hK1 : KLt (k - 1) xs.length := ⟨by omega⟩
          have hlast : lastG xs k = some (nthG xs (k - 1)) := by obtain ⟨j, rfl⟩ : ∃ j, k = j + 1 := ⟨k - 1, by omega⟩; rfl
          refine sq S ?_; clear S; intro a S
          rw [w64 _ (by omega) (by omega), show (k : Int) - 1 = ((k - 1 : Nat) : Int) from by omega] at S
          refine gT S ?_; refine sq S ?_; clear S; intro a S; refine gT S ?_; refine sq S ?_; clear S; intro a S; refine gT S ?_; refine sq S ?_; clear S; intro a S; refine gT S ?_; refine sq S ?_; clear S; intro a S; refine gT' S ?_; (iterate 2 (refine sq S ?_; clear S; intro a S)); refine wl_nil ?_; refine xtn ?_
          refine c_cond S (fun h4 => ?_) (fun h4 => ?_)
          · refine c_seq ?_; refine c_region ?_; refine sq S ?_; clear S; intro a S; refine wl_nil ?_; refine xtn ?_; refine c_ret ?_; refine xbr ?_; (iterate 2 (refine xtr ?_)); refine xbr ?_; refine xtr ?_
            have e : ¬ nthG xs (k - 1) < nthG xs k := by simpa using h4
            refine end1 S (fun _ => ?_)
            rw [← hrel, hlast]; simp [e]
          · refine c_skip ?_; refine xbn ?_; refine xtn ?_; refine c_region ?_; (iterate 2 (refine sq S ?_; clear S; intro a S)); refine wl_nil ?_; refine xtn ?_
            have e1 : q (nthG xs k) = true := by simpa using hb1
            have e : nthG xs (k - 1) < nthG xs k := by simpa using h4
            rw [w64 ((k : Int) + 1) (by omega) (by omega)] at S
            exact ⟨k + 1, S.uu, ⟨hkl, by rw [← hrel, hlast]; simp [e, e1, lastG]⟩, S.sub _ _, by omega⟩
        · refine gF S ?_; clear S; intro a S; (iterate 6 (refine gF S ?_; clear S; intro a S)); refine gT' S ?_; (iterate 2 (refine sq S ?_; clear S; intro a S)); refine wl_nil ?_; refine xtn ?_; refine c_condF S ?_; refine c_skip ?_; refine xbn ?_; refine xtn ?_; refine c_region ?_; (iterate 2 (refine sq S ?_; clear S; intro a S)); refine wl_nil ?_; refine xtn ?_
          have e1 : q (nthG xs k) = true := by simpa using hb1
          have hk0 : k = 0 := by simp at hb2; omega
          rw [w64 ((k : Int) + 1) (by omega) (by omega)] at S
          exact ⟨k + 1, S.uu, ⟨hkl, by rw [← hrel, hk0]; subst hk0; simp [e1, lastG]⟩, S.sub _ _, by omega⟩
    · refine c_exit ?_; (iterate 2 (refine xte ?_)); refine xbe ?_; refine xtn ?_; refine c_seq ?_; refine c_region ?_; refine sq S ?_; clear S; intro a S; refine wl_nil ?_; refine xtn ?_; refine c_ret ?_
      rw [List.drop_of_length_le (by simp at h2; omega)] at hrel
      refine end1 S (fun _ => ?_)
      rw [← hrel]; rfl
theorem pcheck1_c (b : Nat) (x : Int) (P0 : LPerm) (w0 : World) (hb : Stable (fun _ => False) w0 (BoxF b 29 (cPerm P0))) : Ret Tryz.prog 77 [.int .i64 x, .pointer (some ⟨b, 0, none⟩)] w0 (fun _ => False) fun v _ => v = .bool (okU x && decide (x ≠ P0.owner)) := by
  refine enter Tryz.func77 rfl rfl (Wd.begin (fs := [BoxF b 29 (cPerm P0)]) (by simpa using hb)) (fun a S => ?_)
  simp only [Tryz.ntmps77, List.length_cons, List.length_nil, Nat.reduceAdd, Nat.reduceSub, List.replicate_succ, List.replicate_zero, List.cons_append, List.nil_append] at S
  refine c_seq ?_; refine c_region ?_; refine sq S ?_; clear S; intro a S; refine wl_nil ?_; refine xtn ?_; refine c_seq ?_; refine c_region ?_; refine sq S ?_; clear S; intro a S; refine sc S ?_; clear S; intro a w S; refine sq S ?_; clear S; intro a S; (iterate 4 (refine gQ S ?_; clear S; intro a S)); (iterate 2 (refine sq S ?_; clear S; intro a S)); refine wl_nil ?_; refine xtn ?_; refine c_ret ?_
  refine end1 S (fun _ => ?_)
  simp
instance {b : Nat} {P0 : LPerm} {p : Option Addr} {n c : Nat} {xs : List Int} {bs fs} [hg : HasG fs p Int layI xs] [hn : LenN xs n] [hk : LeC n 9223372036854775807] [hb : HasBox bs b 29 (cPerm P0)] : CallV Tryz.prog 79 [.slice p n c, .func (.func 77) #[] ⟨[.pointer (some ⟨b, 0, none⟩)]⟩] bs fs (.bool (risF (fun x => okU x && decide (x ≠ P0.owner)) none xs)) := ⟨fun w m =>
  rising_c 77 [.pointer (some ⟨b, 0, none⟩)] (fun x => okU x && decide (x ≠ P0.owner)) xs p n c w hn.eq hk.le ((hg.of _ _ m.facts).less fun _ _ h => h.elim) fun x _ w' hw' => pcheck1_c b x P0 w' ((BoxF.stable m.box (fun h => h)).later hw')⟩
instance {p : Option Addr} {n c : Nat} {xs : List Int} {bs fs} [hg : HasG fs p Int layI xs] [hn : LenN xs n] [hk : LeC n 9223372036854775807] : CallV Tryz.prog 79 [.slice p n c, .func (.func 80) #[] #[]] bs fs (.bool (risF okG none xs)) := ⟨fun w m =>
  rising_c 80 [] okG xs p n c w hn.eq hk.le ((hg.of _ _ m.facts).less fun _ _ h => h.elim) fun x _ w' _ => pgroup_c x w'⟩
theorem indexI_c (x : Int) (xs : List Int) (p : Option Addr) (n c : Nat) (w0 : World) (hn : xs.length = n) (hl : n ≤ 9223372036854775807) (hx : Stable (fun _ => False) w0 (GlF p xs)) :
    Ret Tryz.prog 98 [.slice p n c, .int .i64 x] w0 (fun _ => False) fun v _ => v = .int .i64 (idxG (fun y => decide (x = y)) xs 0) := by
  subst hn
  refine enter Tryz.func98 rfl rfl (Wd.begin (fs := [GlF p xs]) (by simpa using hx)) (fun a S => ?_)
  simp only [Tryz.ntmps98, List.length_cons, List.length_nil, Nat.reduceAdd, Nat.reduceSub, List.replicate_succ, List.replicate_zero, List.cons_append, List.nil_append] at S
  refine c_seq ?_; refine c_region ?_; refine sq S ?_; clear S; intro a S; refine wl_nil ?_; refine xtn ?_; (iterate 2 (refine c_seq ?_)); refine c_region ?_; (iterate 3 (refine sq S ?_; clear S; intro a S)); refine wl_nil ?_; refine xtn ?_; refine c_block ?_
  refine c_forb1 S (fun (k : Nat) uu => [(4, uu 4), (0, uu 5), (2, .int .i64 (k : Nat)), (0, uu 9), (0, uu 10), (0, uu 11), (0, uu 12), (0, uu 13), (0, uu 14), (0, uu 15), (0, uu 16), (0, uu 17), (0, uu 18)]) (fun (k : Nat) => k ≤ xs.length ∧ idxG (fun y => decide (x = y)) (xs.drop k) k = idxG (fun y => decide (x = y)) xs 0) (fun (k : Nat) => xs.length - k) (0) ?_ S.uu ?_ ?_
  · exact ⟨Nat.zero_le _, rfl⟩
  · first | exact S | exact S.sub _ _
  · clear S; rintro k uu a w ⟨hk, hrel⟩ S
    refine c_seq ?_; refine c_region ?_; refine sq S ?_; clear S; intro a S; refine wl_nil ?_; refine xtn ?_; refine c_seq ?_
    refine c_cond S (fun h2 => ?_) (fun h2 => ?_)
    · refine c_skip ?_; refine xtn ?_; refine c_seq ?_; refine c_block ?_; refine c_seq ?_; refine c_region ?_; (iterate 2 (refine sq S ?_; clear S; intro a S)); refine wl_nil ?_; refine xtn ?_; refine c_seq ?_
      have hkl : k < xs.length := by simp at h2; omega
      have hK : KLt k xs.length := ⟨hkl⟩
      rw [nthG_drop hkl, idxG] at hrel
      refine c_region ?_; (iterate 6 (refine sq S ?_; clear S; intro a S)); refine wl_nil ?_; refine xtn ?_
      refine c_cond S (fun h4 => ?_) (fun h4 => ?_)
      · refine c_seq ?_; refine c_region ?_; (iterate 2 (refine sq S ?_; clear S; intro a S)); refine wl_nil ?_; refine xtn ?_; refine c_ret ?_; refine xbr ?_; (iterate 2 (refine xtr ?_)); refine xbr ?_; refine xtr ?_
        rw [if_pos h4] at hrel
        refine end1 S (fun _ => ?_)
        rw [hrel]
      · refine c_skip ?_; refine xbn ?_; refine xtn ?_; refine c_region ?_; (iterate 2 (refine sq S ?_; clear S; intro a S)); refine wl_nil ?_; refine xtn ?_
        rw [if_neg (by simpa using h4)] at hrel
        rw [w64 ((k : Int) + 1) (by omega) (by omega)] at S
        exact ⟨k + 1, S.uu, ⟨hkl, by rw [← hrel]; rfl⟩, S.sub _ _, by omega⟩
    · refine c_exit ?_; (iterate 2 (refine xte ?_)); refine xbe ?_; refine xtn ?_; refine c_seq ?_; refine c_region ?_; refine sq S ?_; clear S; intro a S; refine wl_nil ?_; refine xtn ?_; refine c_ret ?_
      rw [List.drop_of_length_le (by simp at h2; omega)] at hrel
      refine end1 S (fun _ => ?_)
      rw [← hrel]; rfl
theorem containsI_c (x : Int) (xs : List Int) (p : Option Addr) (n c : Nat) (w0 : World) (hn : xs.length = n) (hl : n ≤ 9223372036854775807) (hx : Stable (fun _ => False) w0 (GlF p xs)) :
    Ret Tryz.prog 83 [.slice p n c, .int .i64 x] w0 (fun _ => False) fun v _ => v = .bool (decide (x ∈ xs)) := by
  refine enter Tryz.func83 rfl rfl (Wd.begin (fs := [GlF p xs]) (by simpa using hx)) (fun a S => ?_)
  simp only [Tryz.ntmps83, List.length_cons, List.length_nil, Nat.reduceAdd, Nat.reduceSub, List.replicate_succ, List.replicate_zero, List.cons_append, List.nil_append] at S
  refine c_seq ?_; refine c_region ?_; refine sq S ?_; clear S; intro a S; refine wl_nil ?_; refine xtn ?_; refine c_seq ?_; refine c_region ?_; (iterate 2 (refine sq S ?_; clear S; intro a S))
  refine sr S (indexI_c x xs p n c _ hn hl (S.gl0 p)) ?_; clear S; rintro _ a w rfl S
  (iterate 2 (refine sq S ?_; clear S; intro a S)); refine wl_nil ?_; refine xtn ?_; refine c_ret ?_
  refine end1 S (fun _ => ?_)
  rw [idxG_any _ xs 0 (by omega)]
  congr 1
  rw [Bool.eq_iff_iff]; simp
instance {x : Int} {p : Option Addr} {n c : Nat} {xs : List Int} {bs fs} [hg : HasG fs p Int layI xs] [hn : LenN xs n] [hk : LeC n 9223372036854775807] : CallV Tryz.prog 83 [.slice p n c, .int .i64 x] bs fs (.bool (decide (x ∈ xs))) := ⟨fun w m =>
  containsI_c x xs p n c w hn.eq hk.le ((hg.of _ _ m.facts).less fun _ _ h => h.elim)⟩
theorem indexFI_c (F : Nat) [EntF Tryz.prog F] (ca : List Value) (q : Int → Bool) (xs : List Int) (p : Option Addr) (n c : Nat) (w0 : World) (hn : xs.length = n) (hl : n ≤ 9223372036854775807) (hx : Stable (fun _ => False) w0 (GlF p xs))
    (hF : ∀ x ∈ xs, ∀ w, Agree (fun _ => False) w0 w → Ret Tryz.prog F (.int .i64 x :: ca) w (fun _ => False) fun v _ => v = .bool (q x)) :
    Ret Tryz.prog 97 [.slice p n c, .func (.func F) #[] ⟨ca⟩] w0 (fun _ => False) fun v _ => v = .int .i64 (idxG q xs 0) := by
  refine enter Tryz.func97 rfl rfl (Wd.begin (fs := [GlF p xs]) (by simpa using hx)) (fun a S => ?_)
  simp only [Tryz.ntmps97, List.length_cons, List.length_nil, Nat.reduceAdd, Nat.reduceSub, List.replicate_succ, List.replicate_zero, List.cons_append, List.nil_append] at S
  refine c_seq ?_; refine c_region ?_; refine sq S ?_; clear S; intro a S; refine wl_nil ?_; refine xtn ?_; (iterate 2 (refine c_seq ?_)); refine c_region ?_; (iterate 3 (refine sq S ?_; clear S; intro a S)); refine wl_nil ?_; refine xtn ?_; refine c_block ?_
  refine c_forb1 S (fun (k : Nat) uu => [(4, uu 4), (0, uu 5), (2, .int .i64 (k : Nat)), (0, uu 9), (0, uu 10), (0, uu 11), (0, uu 12), (0, uu 13), (0, uu 14), (0, uu 15), (0, uu 16), (0, uu 17), (0, uu 18)]) (fun (k : Nat) => k ≤ n ∧ idxG q (xs.drop k) k = idxG q xs 0) (fun (k : Nat) => n - k) (0) ?_ S.uu ?_ ?_
  · exact ⟨Nat.zero_le _, rfl⟩
  · first | exact S | exact S.sub _ _
  · clear S; rintro k uu a w ⟨hk, hrel⟩ S
    refine c_seq ?_; refine c_region ?_; refine sq S ?_; clear S; intro a S; refine wl_nil ?_; refine xtn ?_; refine c_seq ?_
    refine c_cond S (fun h2 => ?_) (fun h2 => ?_)
    · refine c_skip ?_; refine xtn ?_; refine c_seq ?_; refine c_block ?_; refine c_seq ?_; refine c_region ?_; (iterate 2 (refine sq S ?_; clear S; intro a S)); refine wl_nil ?_; refine xtn ?_; refine c_seq ?_
      have hkl : k < n := by simp at h2; omega
      have hK : KLt k n := ⟨hkl⟩
      have hK2 : KLt k xs.length := ⟨by omega⟩
      rw [nthG_drop (show k < xs.length by omega), idxG] at hrel
      refine c_region ?_; (iterate 5 (refine sq S ?_; clear S; intro a S))
      refine sr S (hF (nthG xs k) (nthG_mem (by omega)) w S.wd.agree) ?_; clear S; rintro _ a w rfl S
      refine wl_nil ?_; refine xtn ?_
      refine c_cond S (fun h4 => ?_) (fun h4 => ?_)
      · refine c_seq ?_; refine c_region ?_; (iterate 2 (refine sq S ?_; clear S; intro a S)); refine wl_nil ?_; refine xtn ?_; refine c_ret ?_; refine xbr ?_; (iterate 2 (refine xtr ?_)); refine xbr ?_; refine xtr ?_
        rw [if_pos h4] at hrel
        refine end1 S (fun _ => ?_)
        rw [hrel]
      · refine c_skip ?_; refine xbn ?_; refine xtn ?_; refine c_region ?_; (iterate 2 (refine sq S ?_; clear S; intro a S)); refine wl_nil ?_; refine xtn ?_
        rw [if_neg (by simpa using h4)] at hrel
        rw [w64 ((k : Int) + 1) (by omega) (by omega)] at S
        exact ⟨k + 1, S.uu, ⟨hkl, by rw [← hrel]; rfl⟩, S.sub _ _, by omega⟩
    · refine c_exit ?_; (iterate 2 (refine xte ?_)); refine xbe ?_; refine xtn ?_; refine c_seq ?_; refine c_region ?_; refine sq S ?_; clear S; intro a S; refine wl_nil ?_; refine xtn ?_; refine c_ret ?_
      rw [List.drop_of_length_le (by simp at h2; omega)] at hrel
      refine end1 S (fun _ => ?_)
      rw [← hrel]; rfl
theorem containsFI_c (F : Nat) [EntF Tryz.prog F] (ca : List Value) (q : Int → Bool) (xs : List Int) (p : Option Addr) (n c : Nat) (w0 : World) (hn : xs.length = n) (hl : n ≤ 9223372036854775807) (hx : Stable (fun _ => False) w0 (GlF p xs))
    (hF : ∀ x ∈ xs, ∀ w, Agree (fun _ => False) w0 w → Ret Tryz.prog F (.int .i64 x :: ca) w (fun _ => False) fun v _ => v = .bool (q x)) :
    Ret Tryz.prog 81 [.slice p n c, .func (.func F) #[] ⟨ca⟩] w0 (fun _ => False) fun v _ => v = .bool (xs.any q) := by
  refine enter Tryz.func81 rfl rfl (Wd.begin (fs := [GlF p xs]) (by simpa using hx)) (fun a S => ?_)
  simp only [Tryz.ntmps81, List.length_cons, List.length_nil, Nat.reduceAdd, Nat.reduceSub, List.replicate_succ, List.replicate_zero, List.cons_append, List.nil_append] at S
  refine c_seq ?_; refine c_region ?_; refine sq S ?_; clear S; intro a S; refine wl_nil ?_; refine xtn ?_; refine c_seq ?_; refine c_region ?_; (iterate 2 (refine sq S ?_; clear S; intro a S))
  refine sr S (indexFI_c F ca q xs p n c _ hn hl (S.gl0 p) fun x hx w' hw' => hF x hx w' (S.wd.agree.trans hw')) ?_; clear S; rintro _ a w rfl S
  (iterate 2 (refine sq S ?_; clear S; intro a S)); refine wl_nil ?_; refine xtn ?_; refine c_ret ?_
  refine end1 S (fun _ => ?_)
  rw [idxG_any q xs 0 (by omega)]
theorem pcheck2_c (b : Nat) (x : Int) (P0 : LPerm) (w0 : World) (hl : P0.rd.xs.length ≤ 9223372036854775807) (hb : Stable (fun _ => False) w0 (BoxF b 29 (cPerm P0))) (hp : Stable (fun _ => False) w0 (InF P0)) : Ret Tryz.prog 82 [.int .i64 x, .pointer (some ⟨b, 0, none⟩)] w0 (fun _ => False) fun v _ => v = .bool (!decide (x ∈ P0.rd.xs)) := by
  have hLe : LeC P0.rd.xs.length 9223372036854775807 := ⟨hl⟩
  refine enter Tryz.func82 rfl rfl (Wd.begin (fs := [BoxF b 29 (cPerm P0), InF P0]) (by simp; exact ⟨hb, hp⟩)) (fun a S => ?_)
  simp only [Tryz.ntmps82, List.length_cons, List.length_nil, Nat.reduceAdd, Nat.reduceSub, List.replicate_succ, List.replicate_zero, List.cons_append, List.nil_append] at S
  refine c_seq ?_; refine c_region ?_; refine sq S ?_; clear S; intro a S; refine wl_nil ?_; refine xtn ?_; refine c_seq ?_; refine c_region ?_; (iterate 3 (refine sq S ?_; clear S; intro a S)); refine sc S ?_; clear S; intro a w S; (iterate 2 (refine sq S ?_; clear S; intro a S)); refine wl_nil ?_; refine xtn ?_; refine c_ret ?_
  refine end1 S (fun _ => rfl)
instance {b : Nat} {P0 : LPerm} {p : Option Addr} {n c : Nat} {xs : List Int} {bs fs} [hg : HasG fs p Int layI xs] [hn : LenN xs n] [hk : LeC n 9223372036854775807] [hr : LeC P0.rd.xs.length 9223372036854775807] [hb : HasBox bs b 29 (cPerm P0)] [hi : HasI fs P0] : CallV Tryz.prog 81 [.slice p n c, .func (.func 82) #[] ⟨[.pointer (some ⟨b, 0, none⟩)]⟩] bs fs (.bool (xs.any fun x => !decide (x ∈ P0.rd.xs))) := ⟨fun w m =>
  containsFI_c 82 [.pointer (some ⟨b, 0, none⟩)] (fun x => !decide (x ∈ P0.rd.xs)) xs p n c w hn.eq hk.le ((hg.of _ _ m.facts).less fun _ _ h => h.elim) fun x _ w' hw' => pcheck2_c b x P0 w' hr.le ((BoxF.stable m.box (fun h => h)).later hw') ((m.i0 P0).later hw')⟩
def permB (p : LPerm) : Bool := okU p.owner && decide (1 ≤ p.epoch) && decide (p.epoch ≤ 8) && risF (fun x => okU x && decide (x ≠ p.owner)) none p.rd.xs && risF (fun x => okU x && decide (x ≠ p.owner)) none p.wr.xs && risF okG none p.gr.xs && !(p.wr.xs.any fun x => !decide (x ∈ p.rd.xs))
def permF (p : LPerm) : Int := if permB p then 0 else 210
theorem pcheck_c (p : LPerm) (w0 : World) (hf : Stable (fun _ => False) w0 (InF p)) : Ret Tryz.prog 45 [vPerm p] w0 (fun _ => False) fun v _ => v = .int .i64 (permF p) := by
  have h0 := hf.now
  have hm : (maxLen : Nat) ≤ 9223372036854775807 := by decide
  have h1 : LeC p.rd.xs.length 9223372036854775807 := ⟨Nat.le_trans (Nat.le_trans h0.1.1 h0.1.2.1) hm⟩
  have h2 : LeC p.wr.xs.length 9223372036854775807 := ⟨Nat.le_trans (Nat.le_trans h0.2.1.1 h0.2.1.2.1) hm⟩
  have h3 : LeC p.gr.xs.length 9223372036854775807 := ⟨Nat.le_trans (Nat.le_trans h0.2.2.1 h0.2.2.2.1) hm⟩
  refine enter Tryz.func45 rfl rfl (Wd.begin (fs := [InF p]) (by simpa using hf)) (fun a S => ?_)
  simp only [Tryz.ntmps45, List.length_cons, List.length_nil, Nat.reduceAdd, Nat.reduceSub, List.replicate_succ, List.replicate_zero, List.cons_append, List.nil_append] at S
  refine c_seq ?_; refine c_region ?_
  refine sa S ?_; clear S; intro b1 a w S
  refine sq S ?_; clear S; intro a S; refine wl_nil ?_; refine xtn ?_; refine c_seq ?_; refine c_region ?_; (iterate 2 (refine sq S ?_; clear S; intro a S)); refine wl_nil ?_; refine xtn ?_; refine c_seq ?_; refine c_region ?_; (iterate 2 (refine sq S ?_; clear S; intro a S)); refine sc S ?_; clear S; intro a w S; refine sq S ?_; clear S; intro a S; (iterate 3 (refine gQ S ?_; clear S; intro a S))
  (iterate 2 (refine sq S ?_; clear S; intro a S)); (iterate 3 (refine gQ S ?_; clear S; intro a S)); (iterate 2 (refine sq S ?_; clear S; intro a S)); (iterate 3 (refine gQ S ?_; clear S; intro a S)); refine gC S ?_; clear S; intro a w S; (iterate 2 (refine sq S ?_; clear S; intro a S)); (iterate 3 (refine gQ S ?_; clear S; intro a S)); refine gC S ?_; clear S; intro a w S; (iterate 2 (refine sq S ?_; clear S; intro a S))
  (iterate 2 (refine gQ S ?_; clear S; intro a S)); refine gC S ?_; clear S; intro a w S; (iterate 2 (refine sq S ?_; clear S; intro a S)); refine wl_nil ?_; refine xtn ?_; (iterate 2 (refine c_seq ?_)); refine c_region ?_; (iterate 3 (refine sq S ?_; clear S; intro a S)); (iterate 3 (refine gQ S ?_; clear S; intro a S)); refine gC S ?_; clear S; intro a w S; refine sq S ?_; clear S; intro a S; refine wl_nil ?_
  refine xtn ?_
  refine c_cond S (fun h3 => ?_) (fun h3 => ?_)
  · refine c_seq ?_; refine c_region ?_; refine sq S ?_; clear S; intro a S; refine wl_nil ?_; refine xtn ?_; refine c_ret ?_; refine xtr ?_
    have key : ∀ A B : Bool, (!A || B) = true → (A && !B) = false := by decide
    have e : permB p = false := key _ _ h3
    refine end1 S (fun _ => ?_)
    rw [permF, e]; rfl
  · refine c_skip ?_; refine xtn ?_; refine c_seq ?_; refine c_region ?_; refine sq S ?_; clear S; intro a S; refine wl_nil ?_; refine xtn ?_; refine c_ret ?_
    have key : ∀ A B : Bool, (!A || B) = false → (A && !B) = true := by decide
    have e : permB p = true := key _ _ h3
    refine end1 S (fun _ => ?_)
    rw [permF, e]; rfl
instance {p : LPerm} {bs fs} [h : HasI fs p] : CallV Tryz.prog 45 [.agg ⟨[.int .i64 p.owner, .int .i64 p.epoch, .slice p.rd.p p.rd.xs.length p.rd.cap, .slice p.wr.p p.wr.xs.length p.wr.cap, .slice p.gr.p p.gr.xs.length p.gr.cap]⟩] bs fs (.int .i64 (permF p)) := ⟨fun w m => pcheck_c p w (m.i0 p)⟩
structure LBel where
  group : Int
  user : Int
instance encBel : Enc LBel := ⟨2, fun m => [.int .i64 m.group, .int .i64 m.user], fun _ => rfl, fun x u hu => by simp only [List.mem_cons, List.not_mem_nil, or_false] at hu; rcases hu with rfl | rfl <;> rfl⟩
instance layBel : Lay LBel := { encBel with
  dflt := ⟨0, 0⟩
  inn := fun _ _ => True
  mono := fun _ _ _ _ h => h }
open Go.ChangeShapes Go.WideShapes Go.ChangeAt Go.RowKit
theorem own : ownKnob Tryz.prog.godebug = none := by kernel_rfl
theorem laidOut : laidOutB Tryz.prog = true := by kernel_rfl
instance termTy : TermTy Tryz.prog 24 := ⟨⟨_, 3, 9, 22, rfl, rfl, rfl, rfl, rfl, by kernel_rfl, by kernel_rfl, by kernel_rfl, by kernel_rfl⟩⟩
instance troInt : Tro Tryz.prog 3 Int := troI Tryz.underlying3 (by kernel_rfl)
instance troTerm : Tro Tryz.prog 24 LTerm := troT
instance troInts : Tro Tryz.prog 27 (Sl Int) := troSl Tryz.underlying27 (by kernel_rfl)
open Go Go.Wk Go.Sort
theorem encI_map (ns : List Int) : encL ns = ns.map (Value.int .i64) := by
  induction ns with
  | nil => rfl
  | cons x xs ih => rw [encL_cons, ih]; rfl
theorem sortI_c (ns : List Int) (p : Option Addr) (c : Nat) (w0 : World) (hpos : 0 < ns.length) (hlen : ns.length ≤ 1000000) (hown : w0.ownsRow 0 3 1 (.slice p ns.length c) ns.length (encL ns)) :
    Ret Tryz.prog 50 [.slice p ns.length c] w0 (fun k => ∃ ad, p = some ad ∧ k = ad.block) fun v w' => v = .tuple #[] ∧ ∃ ms : List Int, ms.Perm ns ∧ ms.Pairwise (· ≤ ·) ∧ w'.ownsRow 0 3 1 (.slice p ns.length c) ns.length (encL ms) := by
  obtain ⟨g, cur, rfl, hg, hnc, hcs, htk, hcm⟩ := own_cells hown hpos
  have hglt := (Array.getElem?_eq_some_iff.1 hg).1
  rw [Nat.mul_one] at htk hcs
  have hH : Holds (Value.int .i64) w0 g 0 ns.toArray := fun j hj => by
    have hj' : j < ns.length := by simpa using hj
    refine ⟨?_, by simp [World.frozen?, hg]⟩
    rw [cell_of_row w0 g (0 + j) cur 3 (0, 0) hg, Nat.zero_add, ← Array.getElem?_toList]
    have h1 : (cur.toList.take ns.length)[j]? = some (.int .i64 ns[j]) := by rw [htk, encI_map, List.getElem?_map, List.getElem?_eq_getElem hj']; rfl
    rw [List.getElem?_take, if_pos hj'] at h1
    rw [h1, getElem!_pos ns.toArray j hj]
    simp
  have hc := Any.slices_Sort_int Tryz.lays189 g 0 c ns w0 hH hglt (by omega)
  obtain ⟨ms, hms⟩ : ∃ ms, ms = ns.mergeSort fun x y => decide (x ≤ y) := ⟨_, rfl⟩
  have hperm : ms.Perm ns := by rw [hms]; exact List.mergeSort_perm _ _
  have hsort : ms.Pairwise (· ≤ ·) := by
    have h := List.pairwise_mergeSort (le := fun x y : Int => decide (x ≤ y)) (fun a b c h1 h2 => by simp at *; omega) (fun a b => by simp; omega) ns
    rw [← hms] at h
    exact h.imp fun h => by simpa using h
  have hml : ms.length = ns.length := hperm.length_eq
  rw [← hms] at hc
  refine Calls.mono hc ?_
  rintro e w' ⟨rfl, n, os, rfl⟩
  have hgrow : ∀ k, k < w0.heap.size → (grow (putRow (Value.int .i64) (Go.Sort.ahead w0 n) g 0 ms.toArray) os).heap[k]? = (w0.heap.modify g (onCells (putCells (Value.int .i64) 0 ms.toArray)))[k]? := fun k hk =>
    heap_grow_old _ _ (by simp [putRow, mapBlock, Go.Sort.ahead]; exact hk)
  have hgg : (grow (putRow (Value.int .i64) (Go.Sort.ahead w0 n) g 0 ms.toArray) os).heap[g]? = some (.cells (putCells (Value.int .i64) 0 ms.toArray cur) 3 (0, 0)) := by
    rw [hgrow g hglt, Array.getElem?_modify, if_pos rfl, hg]; rfl
  refine ⟨_, rfl, ⟨rfl, rfl, rfl, by simp [putRow, mapBlock, Go.Sort.ahead], fun k hk hm => ?_⟩, rfl, ms, hperm, hsort, ?_⟩
  · have hkg : g ≠ k := fun e => hm ⟨_, rfl, e.symm⟩
    rw [hgrow k hk, Array.getElem?_modify, if_neg hkg]
  · refine ⟨by rw [encI_map, List.length_map, hml, Nat.mul_one], .inr ⟨g, c, _, rfl, Nat.zero_le _, hgg, hnc, hcm, by simp [putCells, hcs], ?_⟩⟩
    rw [Nat.mul_one, encI_map]
    apply List.ext_getElem?
    intro j
    rw [List.getElem?_take]
    split
    · rename_i hj
      have hjc : j < cur.size := by omega
      have hjm : j < ms.length := by omega
      simp only [Array.getElem?_toList, putCells, Array.getElem?_mapIdx, Array.getElem?_eq_getElem hjc, Option.map_some, List.getElem?_map, List.getElem?_eq_getElem hjm]
      rw [if_pos ⟨Nat.zero_le _, by simpa using hjm⟩]
      simp [hjm]
    · rename_i hj
      rw [List.getElem?_eq_none (by simp; omega)]
def lockT (a b : Term) : Term := .mk 6 0 0 [] [a, b]
def sealT (u : Int) (a : Term) : Term := .mk 7 u 0 [] [a]
def textT (s : List UInt8) : Term := .mk 1 0 0 s []
def listT : List Term → Term
  | [] => textT []
  | t :: ts => .pair t (listT ts)
theorem lock_c (x y : LTerm) (M : Nat → Prop) (w0 : World) (hM : ∀ k, M k → k < w0.heap.size) (hx : Stable M w0 (LtF x)) (hy : Stable M w0 (LtF y)) : Ret Tryz.prog 55 [vL x, vL y] w0 (fun _ => False) fun v w' => IsT M w' v (lockT x.t y.t) := by
  refine enter Tryz.func55 rfl rfl (Wd.beginM (M := M) (fs := [LtF x, LtF y]) hM (by simp; exact ⟨hx, hy⟩)) (fun a S => ?_)
  simp only [Tryz.ntmps55, List.length_cons, List.length_nil, Nat.reduceAdd, Nat.reduceSub, List.replicate_succ, List.replicate_zero, List.cons_append, List.nil_append] at S
  refine c_seq ?_; refine c_region ?_
  refine sa S ?_; clear S; intro b2 a w S
  refine sa S ?_; clear S; intro b3 a w S
  refine sa S ?_; clear S; intro b4 a w S
  refine wl_nil ?_; refine xtn ?_; refine c_seq ?_; refine c_region ?_; (iterate 2 (refine sq S ?_; clear S; intro a S))
  refine sn S ?_; clear S; intro b7 a w S
  refine sc S ?_; clear S; intro a w S; refine sw S ?_; clear S; intro a w S; refine wl_nil ?_; refine xtn ?_; refine c_ret ?_
  refine end1 S (fun _ => ?_)
  refine ⟨.mk 6 0 0 [] (some ⟨b7, 0, none⟩) 2 [x, y], rfl, rfl, fun w' hw' => ?_⟩
  have h1 := S.laterFact (Φ := LtF x) (by simp) w' hw'
  have h2 := S.laterFact (Φ := LtF y) (by simp) w' hw'
  exact ⟨by simp, by simp [maxLen], LsIn.of_block [x, y] (S.laterBox hw' b7) (by simpa using ⟨h1, h2⟩)⟩
theorem seal_c (u : Int) (x : LTerm) (M : Nat → Prop) (w0 : World) (hM : ∀ k, M k → k < w0.heap.size) (hx : Stable M w0 (LtF x)) : Ret Tryz.prog 52 [.int .i64 u, vL x] w0 (fun _ => False) fun v w' => IsT M w' v (sealT u x.t) := by
  refine enter Tryz.func52 rfl rfl (Wd.beginM (M := M) (fs := [LtF x]) hM (by simpa using hx)) (fun a S => ?_)
  simp only [Tryz.ntmps52, List.length_cons, List.length_nil, Nat.reduceAdd, Nat.reduceSub, List.replicate_succ, List.replicate_zero, List.cons_append, List.nil_append] at S
  refine c_seq ?_; refine c_region ?_
  refine sa S ?_; clear S; intro b3 a w S
  refine sa S ?_; clear S; intro b4 a w S
  refine wl_nil ?_; refine xtn ?_; refine c_seq ?_; refine c_region ?_; refine sq S ?_; clear S; intro a S
  refine sn S ?_; clear S; intro b7 a w S
  refine sc S ?_; clear S; intro a w S
  refine sa S ?_; clear S; intro b5 a w S
  refine sw S ?_; clear S; intro a w S; refine wl_nil ?_; refine xtn ?_; refine c_seq ?_; refine c_region ?_; (iterate 2 (refine sq S ?_; clear S; intro a S)); refine sw S ?_; clear S; intro a w S; refine wl_nil ?_; refine xtn ?_; refine c_seq ?_; refine c_region ?_; refine sq S ?_; clear S; intro a S; refine sw S ?_; clear S; intro a w S; refine wl_nil ?_; refine xtn ?_; refine c_ret ?_
  refine end1 S (fun _ => ?_)
  refine ⟨.mk 7 u 0 [] (some ⟨b7, 0, none⟩) 1 [x], rfl, rfl, fun w' hw' => ?_⟩
  have h1 := S.laterFact (Φ := LtF x) (by simp) w' hw'
  exact ⟨by simp, by simp [maxLen], LsIn.of_block [x] (S.laterBox hw' b7) (fun x hx => by obtain rfl := List.mem_singleton.1 hx; exact h1)⟩
def backV (b : Nat) : Value := .func (.func 94) #[] ⟨[.pointer (some ⟨b, 0, none⟩)]⟩
theorem back_f (p : Option Addr) (n c : Nat) (w0 : World) : Ret Tryz.prog 73 [.slice p n c] w0 (fun _ => False) fun v w' => ∃ b, v = backV b ∧ w0.heap.size ≤ b ∧ BoxF b 22 [.slice p n c] w' := by
  refine enter Tryz.func73 rfl rfl (Wd.start w0) (fun a S => ?_)
  simp only [Tryz.ntmps73, List.length_cons, List.length_nil, Nat.reduceAdd, Nat.reduceSub, List.replicate_succ, List.replicate_zero, List.cons_append, List.nil_append] at S
  refine c_seq ?_; refine c_region ?_
  refine sa S ?_; clear S; intro b1 a w S
  refine sq S ?_; clear S; intro a S; refine wl_nil ?_; refine xtn ?_; refine c_seq ?_; refine c_region ?_; (iterate 2 (refine sq S ?_; clear S; intro a S)); refine wl_nil ?_; refine xtn ?_; refine c_ret ?_
  have h1 := S.boxF b1
  have n1 := S.boxNew b1
  refine end1 S (fun _ => ?_)
  exact ⟨b1, rfl, n1.elim (fun h => h.elim) id, h1⟩
theorem back_get {n i : Nat} (h : i < n) : (List.range n).reverse[i]? = some (n - 1 - i) := by
  rw [List.getElem?_reverse (by simpa using h), List.length_range, List.getElem?_range (by omega)]
theorem back_it (b : Nat) (xs : List LTerm) (p : Option Addr) (n c : Nat) (hn : xs.length = n) (hl : n ≤ 1000000) (w0 : World) (M : Nat → Prop) (hM : ∀ k, M k → k < w0.heap.size) (f1 : Stable M w0 (BoxF b 22 [.slice p n c])) (f2 : Stable M w0 (LsF p 0 xs)) :
    IterRet Tryz.prog 94 [.pointer (some ⟨b, 0, none⟩)] w0 M (fun (i : Nat) vs _ _ => vs = [.int .i64 (i : Nat), vL (nthL xs i)]) (List.range n).reverse := by
  intro L J Jx hy hJ
  subst hn
  have hF : ∀ Φ ∈ [BoxF b 22 [.slice p xs.length c], LsF p 0 xs], Stable M w0 Φ := by simp; exact ⟨f1, f2⟩
  obtain ⟨n, hn⟩ : ∃ n, n = xs.length := ⟨_, rfl⟩
  refine (callsIn_wide (n := 0)).2 ?_
  refine enter Tryz.func94 rfl rfl (Wd.beginM (M := M) (fs := [BoxF b 22 [.slice p xs.length c], LsF p 0 xs]) hM hF) (fun a S => ?_)
  simp only [Tryz.ntmps94, List.length_cons, List.length_nil, Nat.reduceAdd, Nat.reduceSub, List.replicate_succ, List.replicate_zero, List.cons_append, List.nil_append] at S
  refine c_seq ?_; refine c_region ?_; (iterate 3 (refine sq S ?_; clear S; intro a S))
  rw [w64 _ (by omega) (by omega), show (xs.length : Int) - 1 = (n : Int) - 1 - ((0 : Nat) : Int) from by omega] at S
  refine sq S ?_; clear S; intro a S; refine wl_nil ?_; refine xtn ?_; refine c_block ?_
  refine c_loop (ι := Nat) (fun k a w => k ≤ n ∧ ∃ N w1, J k w1 ∧ ∃ uu : Nat → Value,  St w1 (fun _ => False) [] a w ((.func (.yield L) #[] #[]) :: (.pointer (some ⟨b, 0, none⟩)) :: uu 2 :: (.int .i64 ((n : Int) - 1 - (k : Nat))) :: uu 4 :: uu 5 :: uu 6 :: uu 7 :: uu 8 :: uu 9 :: uu 10 :: uu 11 :: uu 12 :: uu 13 :: uu 14 :: uu 15 :: uu 16 :: uu 17 :: uu 18 :: []) [ext N] [BoxF b 22 [.slice p xs.length c], LsF p 0 xs]) (fun k => n - k) 0 ?_ ?_
  · exact ⟨Nat.zero_le _, M, w0, hJ, S.uu, S⟩
  · clear S
    rintro k a w ⟨hk, N, w1, hJk, uu, S⟩
    (iterate 2 (refine c_seq ?_)); refine c_region ?_; (iterate 2 (refine sq S ?_; clear S; intro a S)); refine wl_nil ?_; refine xtn ?_
    refine c_cond S (fun h1 => ?_) (fun h1 => ?_)
    · refine c_skip ?_; refine xtn ?_; refine c_seq ?_; refine c_block ?_; refine c_seq ?_
      have hkl : k < n := by simp at h1; omega
      have hK : KLt (n - 1 - k) xs.length := ⟨by omega⟩
      have hg := back_get hkl
      rw [show (n : Int) - 1 - (k : Nat) = ((n - 1 - k : Nat) : Int) from by omega] at S
      refine c_region ?_; (iterate 6 (refine sq S ?_; clear S; intro a S))
      refine sy S (M := M) (wI := w0) (fs0 := [BoxF b 22 [.slice p xs.length c], LsF p 0 xs]) hF (hy k _ _ w1 w (by rw [← hn]; exact hg) hJk S.wd.agree rfl) ?_; clear S; intro ok N' a w2 hT hX S
      refine sq S ?_; clear S; intro a S; refine wl_nil ?_; refine xtn ?_
      refine c_cond S (fun h3 => ?_) (fun h3 => ?_)
      · refine c_ret ?_; refine xbr ?_; (iterate 2 (refine xtr ?_)); refine xbr ?_
        exact endI S ⟨w2, S.wd.agree, .inr (hX (by simpa using h3))⟩
      · refine c_skip ?_; refine xbn ?_; refine xtn ?_; refine c_region ?_; (iterate 2 (refine sq S ?_; clear S; intro a S))
        rw [w64 _ (by omega) (by omega), show ((n - 1 - k : Nat) : Int) - 1 = (n : Int) - 1 - ((k + 1 : Nat) : Int) from by omega] at S
        refine sq S ?_; clear S; intro a S; refine wl_nil ?_; refine xtn ?_
        exact ⟨k + 1, ⟨hkl, N', w2, hT (by simpa using h3), S.uu, S⟩, by omega⟩
    · refine c_exit ?_; (iterate 2 (refine xte ?_)); refine xbe ?_
      refine endI S ⟨w1, S.wd.agree, .inl ?_⟩
      have h9 : k = n := by simp at h1; omega
      rw [List.length_reverse, List.length_range, ← hn, ← h9]; exact hJk
theorem list_c (xs : List LTerm) (p : Option Addr) (c : Nat) (M : Nat → Prop) (w0 : World) (hl : xs.length ≤ 1000000) (hM : ∀ k, M k → k < w0.heap.size) (hx : Stable M w0 (LsF p 0 xs)) : Ret Tryz.prog 37 [.slice p xs.length c] w0 (fun _ => False) fun v w' => IsT M w' v (listT (xs.map LTerm.t)) := by
  refine enterM Tryz.func37 rfl rfl (Wd.beginM (M := M) (fs := [LsF p 0 xs]) hM (by simpa using hx)) (fun a S => ?_)
  simp only [Tryz.ntmps37, List.length_cons, List.length_nil, Nat.reduceAdd, Nat.reduceSub, List.replicate_succ, List.replicate_zero, List.cons_append, List.nil_append] at S
  refine c_seq ?_; refine c_region ?_
  refine sa S ?_; clear S; intro b2 a w S
  refine wl_nil ?_; refine xtn ?_; refine c_seq ?_; refine c_region ?_; refine sc S ?_; clear S; intro a w S
  refine sa S ?_; clear S; intro b3 a w S
  refine sw S ?_; clear S; intro a w S; refine wl_nil ?_; refine xtn ?_; (iterate 2 (refine c_seq ?_)); refine c_region ?_; refine sq S ?_; clear S; intro a S
  have hlt := foots_lt S
  refine sr S (back_f p xs.length c w) ?_; clear S; rintro _ a w ⟨g, rfl, n1, f1⟩ S
  replace S := S.add (Φ := BoxF g 22 [.slice p xs.length c]) (BoxF.stable f1 (fun hm => by have := hlt _ hm; omega))
  clear hlt n1 f1
  refine wl_nil ?_; refine xtn ?_; refine c_block ?_
  replace S := S.add (Φ := LtF (textL [])) (fun _ _ => by simp [LtIn, textL, LsIn, LtF])
  refine c_range (κ := LTerm) (κx := Empty) (Ds := []) (List.range xs.length).reverse
    (fun _ t => [Wk.box b3 24 t.cells, Wk.box b2 24 zeroL.cells, marks [], ext M]) (fun _ t => [LtF t, BoxF g 22 [.slice p xs.length c], LsF p 0 xs]) (fun i t => t.t = listT ((xs.map LTerm.t).drop (xs.length - i))) (fun k => k.elim) (fun k => k.elim) (fun _ k => k.elim) (textL []) S
    (fun M w1 hM hF _ => back_it g xs p xs.length c rfl hl w1 M hM (hF _ (by simp)) (hF _ (by simp))) ⟨by rw [Nat.sub_zero, List.drop_of_length_le (by simp)]; rfl, rfl, rfl⟩ ?_ ?_ ?_ ?_
  · clear S
    rintro L D bL M' w1 i x vs t W0 w hx hrel hW0 hgr rfl
    have hi : i < xs.length := by have := (List.getElem?_eq_some_iff.1 hx).1; simpa using this
    rw [back_get hi] at hx
    obtain rfl : xs.length - 1 - i = x := by simpa using hx
    have hK : KLt (xs.length - 1 - i) xs.length := ⟨by omega⟩
    refine ⟨_, inferInstance, fun a S => ?_⟩
    refine c_region ?_
    refine sa S ?_; clear S; intro b5 a w S
    refine sw S ?_; clear S; intro a w S; refine wl_nil ?_; refine xtn ?_
    refine rbegin (D := D) (b := bL) S ?_; clear S; intro a w S
    refine c_block ?_; refine c_region ?_; (iterate 2 (refine sq S ?_; clear S; intro a S))
    refine sr S (pair_c (nthL xs (xs.length - 1 - i)) t _ w (foots_lt S) (S.t _) (S.t _)) ?_; clear S; rintro _ a w ⟨r, rfl, hr, hrf⟩ S
    replace S := S.add hrf
    refine sw S ?_; clear S; intro a w S; refine wl_nil ?_; refine xbn ?_
    replace S := S.sub [lpI L D (lpR bL .busy none), Wk.box b3 24 r.cells, Wk.box b2 24 zeroL.cells, marks [], ext M] [LtF r, BoxF g 22 [.slice p xs.length c], LsF p 0 xs]
    refine rnext (D := D) (b := bL) S fun W hW => ⟨r, ?_, ?_⟩
    · rw [hr, hrel, show xs.length - i = xs.length - (i + 1) + 1 from by omega]
      have h5 : xs.length - (i + 1) < (xs.map LTerm.t).length := by simp; omega
      rw [List.drop_eq_getElem_cons h5, listT]
      simp [nthL, show xs.length - 1 - i = xs.length - (i + 1) from by omega, show xs.length - (i + 1) < xs.length from by omega]
    · exact hW
  · clear S
    rintro D t a w hrel S
    refine xbn ?_; refine xtn ?_; refine c_seq ?_; refine c_region ?_; refine sq S ?_; clear S; intro a S; refine sw S ?_; clear S; intro a w S; refine wl_nil ?_; refine xtn ?_; refine c_ret ?_
    rw [List.length_reverse, List.length_range, Nat.sub_self, List.drop_zero] at hrel
    replace S := S.join (Ds := [])
    refine endM1 S (fun w hw => ?_)
    exact ⟨t, rfl, hrel, (hw.facts (LtF t) (by simp)).less fun k _ hk => ⟨ext M, by simp, hk⟩⟩
  · intro D k; exact k.elim
  · intro id D k; exact k.elim
theorem good_text {s : List UInt8} (h : s.length ≤ 64) : Good (textT s) := by
  refine good_walk.2 ?_
  rw [textT, walkF]
  have hp : plainF 1 0 0 s 0 = true := by
    unfold plainF
    simp [fieldsOf, hasF, kidsF, h, show iand .i64 1 16 = 0 from rfl, show iand .i64 1 8 = 0 from rfl, show iand .i64 1 2 = 0 from rfl, show iand .i64 1 1 = 1 from rfl]
    omega
  simp [hp, walkLF]
theorem good_pair {a b : Term} (ha : Good a) (hb : Good b) (hc : cnt a + cnt b ≤ 1199) (h1 : dpt a ≤ 59) (h2 : dpt b ≤ 59) : Good (.pair a b) :=
  good_mk rfl (by simp; exact ⟨ha, hb⟩) (by simp [cntL]; omega) (by simp [dptL]; omega)
theorem cnt_pair (a b : Term) : cnt (.pair a b) = 1 + (cnt a + cnt b) := by simp [Term.pair, cnt, cntL]
theorem dpt_pair (a b : Term) : dpt (.pair a b) = 1 + max (dpt a) (dpt b) := by simp [Term.pair, dpt, dptL]
theorem listT_good : ∀ (ts : List Term), (∀ t ∈ ts, Good t ∧ cnt t ≤ 20 ∧ dpt t ≤ 20) → ts.length ≤ 30 → Good (listT ts) ∧ cnt (listT ts) ≤ 1 + 21 * ts.length ∧ dpt (listT ts) ≤ 21 + ts.length
  | [], _, _ => ⟨good_text (by simp), by simp [listT, textT, cnt, cntL], by simp [listT, textT, dpt, dptL]⟩
  | t :: ts, h, hl => by
    simp only [List.length_cons] at hl
    obtain ⟨i1, i2, i3⟩ := listT_good ts (fun x hx => h x (by simp [hx])) (by omega)
    obtain ⟨g1, g2, g3⟩ := h t (by simp)
    rw [listT, cnt_pair, dpt_pair, List.length_cons]
    exact ⟨good_pair g1 i1 (by omega) (by omega) (by omega), by omega, by omega⟩
end Go.Proofs.YtibkkbknnfehlaaGreatDoor
namespace Go.Wk
open Go
class Ascii (m : Int) : Prop where
  lo : 0 ≤ m
  hi : m < 128
section
variable {P : Program} {l : Cx} {bs : List Item} {fs : List (World → Prop)} {x y : Operand} {t t' ty : TypeId} {s u : List UInt8} {m : Int} {k : IntKind}
instance opSAdd [Ev l x (str s)] [Ev l y (str u)] [hb : LeC (s.length + u.length) 4611686018427387904] : OpQ P (.binOp .add t x y t') ty l bs fs (str (s ++ u)) := ⟨fun ρ w h _ => by
  have h1 : ¬ (((⟨s.toArray⟩ : ByteArray).size + (⟨u.toArray⟩ : ByteArray).size : Nat) : Int) > IntKind.i64.max := by
    have := hb.le
    have e1 : (⟨s.toArray⟩ : ByteArray).size = s.length := rfl
    have e2 : (⟨u.toArray⟩ : ByteArray).size = u.length := rfl
    rw [e1, e2]
    simp only [IntKind.max, IntKind.bits, IntKind.signed]
    simp; omega
  have h2 : (⟨s.toArray⟩ : ByteArray) ++ ⟨u.toArray⟩ = ⟨(s ++ u).toArray⟩ := by
    apply ByteArray.ext; simp
  simp only [xop, execOp, h.ev (x := x) (v := str s), h.ev (x := y) (v := str u), eqGuard, binOp, Op.stringOp]
  rw [if_neg h1, h2]
  simp⟩
theorem utf8_ascii {m : Int} (h0 : 0 ≤ m) (h1 : m < 128) : Utf8.encode m = ⟨[u8 m].toArray⟩ := by
  obtain ⟨n, rfl⟩ := Int.eq_ofNat_of_zero_le h0
  have hn : n < 128 := by omega
  have : ∀ n : Nat, n < 128 → Utf8.encode (n : Int) = ⟨[u8 (n : Int)].toArray⟩ := by decide +kernel
  exact this n hn
instance opConvRune [Ev l x (.int k m)] [Und P t (.int k)] [Und P t' .string] [ha : Ascii m] : OpQ P (.convert t t' x) ty l bs fs (str [u8 m]) := ⟨fun ρ w h _ => by
  have := utf8_ascii ha.lo ha.hi
  simp [xop, execOp, h.ev (x := x) (v := .int k m), convert, Sem.run_bind, run_und, Conv.intToString, this]⟩
end
open Go Go.Deep Go.ChangeShapes Go.WideShapes Go.ChangeAt Go.RowKit
section
variable {w0 : World} {M0 : Nat → Prop} {ds : List Deferred} {a : Act} {w : World} {l : List Value} {bs bs' : List Item} {fs : List (World → Prop)}
theorem St.rowToGl {α : Type} [Lay α] (S : St w0 M0 ds a w l bs fs) (p : Option Addr) (xs : List α) {e : TypeId} {sz n c : Nat} [hd : DropI bs (Wk.row e sz p n c (encL xs)) bs'] (h : Stable (foots bs) w (AllI xs)) : St w0 M0 ds a w l bs' (GlF p xs :: fs) := by
  have S1 := S.perm _ hd.perm
  have hap := List.pairwise_cons.1 S1.wd.apart
  have hr : (Wk.row e sz p n c (encL xs)).holds w := S1.wd.held _ (by simp)
  have S2 : St w0 M0 ds a w l bs' fs := ⟨S1.slots, S1.defers, S1.wd.sub (.cons _ (.refl _)) (.refl _)⟩
  refine S2.add fun w' hw' => ⟨SlF.stable (own_sl hr) (fun ad hp ⟨it, hi, hk⟩ => hap.1 it hi ad.block ⟨ad, hp, rfl⟩ hk) w' hw', ?_⟩
  exact (h.less fun k _ ⟨it, hi, hk⟩ => ⟨it, (hd.perm.mem_iff).1 (List.mem_cons_of_mem _ hi), hk⟩) w' hw'
end
section
variable {P : Program} {l : Cx} {bs : List Item} {fs : List (World → Prop)} {x y : Operand} {p : Option Addr} {n c k sz off : Nat} {kk : IntKind} {m : Int} {t ty e : TypeId} {z v : Value} {by_ : Nat}
instance (priority := 875) opFieldEl [Ev l x (.pointer (some (elAddr p k)))] {s f ft : Nat} [hf : Fld P s f off ft] : OpQ P (.fieldAddr s x f) ty l bs fs (.pointer (some (gAddr p k 5 off))) := ⟨fun ρ w h _ => by
  have e : elAddr p k = gAddr p k 5 0 := rfl
  simp [xop, execOp, h.ev (x := x) (v := .pointer (some (elAddr p k))), run_fieldAt (P := P) (s := s) (f := f) (off := off) (ft := ft), e, gAddr_add]⟩
instance (priority := 770) opLoadL1 {xs : List LTerm} [Ev l x (.pointer (some (gAddr p k 5 off)))] [ha : AggT P t false] [hl : HasLs fs p xs] [hk : KLt k xs.length] [hn : Nth (nthL xs k).cells off v] :
    OpQ P (.load t x) ty l bs fs v := ⟨fun ρ w h mm => by
  have h1 := gl_cells (xs := xs) (k := k) (sz := 5) (ls_gl (hl.of _ _ mm.facts).now) hk.lt (hc := ⟨rfl⟩) hn.eq
  simp [xop, execOp, Instr.loadAt, h.ev (x := x) (v := .pointer (some (gAddr p k 5 off))), Instr.sureAddr, loadVar, Sem.run_bind, ha.run, load, Sem.run, h1]⟩
class CLt (cs : List Bool) (k n : Nat) : Prop where lt : (∀ c ∈ cs, c = true) → k < n
section
variable {cs : List Bool} {ls : List Value} {α : Type} {i : Lay α} {xs : List α}
instance (priority := 820) opIdxGC [Ev ⟨cs, ls⟩ x (.slice p n c)] [Ev ⟨cs, ls⟩ y (.int kk m)] [Und P t (.slice e)] [TI P e z sz by_] [hm : IsNat m k] [hl : HasG fs p α i xs] [hs : SzE α sz] [hk : CLt cs k n] [hk' : CLt cs k xs.length] :
    OpQ P (.indexAddr t x y) ty ⟨cs, ls⟩ bs fs (.pointer (some (gAddr p k sz 0))) := ⟨fun ρ w h mm => by
  have hlt := hk.lt h.1
  obtain ⟨ad, rfl⟩ := gl_some (hl.of _ _ mm.facts).now (hk'.lt h.1) (by rw [hs.eq]; exact hs.pos)
  have h2 := hm.eq
  subst h2
  simp [xop, execOp, h.ev (x := x) (v := .slice (some ad) n c), h.ev (x := y) (v := .int kk (k : Int))]
  simp [run_indexAt (P := P) (t := t) (e := e) (z := z) (sz := sz) (by_ := by_) (Int.natCast_nonneg k) (Int.ofNat_lt.2 hlt), gAddr]⟩
instance (priority := 760) opLoadGAC {ds vs : List Value} [Ev ⟨cs, ls⟩ x (.pointer (some (gAddr p k sz off)))] [ha : AggT P t true] [TI P t z n by_] [hl : HasG fs p α i xs] [hs : SzE α sz] [hk : CLt cs k xs.length] [hc : CellsOf (nthG xs k) ds] [hn : Seg ds off n vs] :
    OpQ P (.load t x) ty ⟨cs, ls⟩ bs fs (.agg ⟨vs⟩) := ⟨fun ρ w h mm => by
  have hlc := run_loadCells_list (P := P) w (gAddr p k sz off) vs (fun j v hj => by
    have hjn : j < n := by rw [← hn.eq.1]; exact (List.getElem?_eq_some_iff.1 hj).1
    rw [gAddr_add]
    exact gl_cells (hl.of _ _ mm.facts).now (hk.lt h.1) ((hn.eq.2 j hjn).trans hj))
  rw [hn.eq.1] at hlc
  simp [xop, execOp, Instr.loadAt, h.ev (x := x) (v := .pointer (some (gAddr p k sz off))), Instr.sureAddr, loadVar, Sem.run_bind, ha.run, run_size, hlc]⟩
end
end
def AgF (M : Nat → Prop) (w : World) : World → Prop := fun w' => Agree M w w'
theorem AgF.stable {M : Nat → Prop} {w : World} : Stable M w (AgF M w) := fun _ h => h
section
variable {w0 : World} {M0 : Nat → Prop} {ds : List Deferred} {a : Act} {w : World} {l : List Value} {bs bs' : List Item} {fs : List (World → Prop)}
theorem St.borrow {α : Type} [Lay α] (S : St w0 M0 ds a w l bs fs) (p : Option Addr) (xs : List α) {e : TypeId} {sz n c : Nat} [hd : DropI bs (Wk.row e sz p n c (encL xs)) bs'] (h : Stable (foots bs) w (AllI xs)) :
    St w0 M0 ds a w l bs' (GlF p xs :: AgF (foots bs') w :: fs) ∧ ∀ a' w' l' fs', St w0 M0 ds a' w' l' bs' fs' → AgF (foots bs') w ∈ fs' → St w0 M0 ds a' w' l' bs fs := by
  have S1 := S.perm _ hd.perm
  have hap := List.pairwise_cons.1 S1.wd.apart
  have hr : (Wk.row e sz p n c (encL xs)).holds w := S1.wd.held _ (by simp)
  have hsub : ∀ k, foots bs' k → foots bs k := fun k ⟨it, hi, hk⟩ => ⟨it, (hd.perm.mem_iff).1 (List.mem_cons_of_mem _ hi), hk⟩
  have hfr : ∀ k, (Wk.row e sz p n c (encL xs)).foot k → ¬ foots bs' k := fun k hk ⟨it, hi, hk'⟩ => hap.1 it hi k hk hk'
  constructor
  · have S2 : St w0 M0 ds a w l bs' fs := ⟨S1.slots, S1.defers, S1.wd.sub (.cons _ (.refl _)) (.refl _)⟩
    refine (S2.add (Φ := AgF (foots bs') w) AgF.stable).add fun w' hw' => ⟨SlF.stable (own_sl hr) (fun ad hp => hfr _ ⟨ad, hp, rfl⟩) w' hw', ?_⟩
    exact (h.less fun k _ hk => hsub k hk) w' hw'
  · intro a' w' l' fs' S' hm
    have hag : Agree (foots bs') w w' := (S'.wd.facts _ hm).now
    refine St.perm ?_ _ hd.perm.symm
    have hlt := row_foot_lt hr
    refine ⟨S'.slots, S'.defers, ?_⟩
    refine ⟨S'.wd.agree, fun it hi => ?_, fun it hi => ?_, fun it hi => ?_, ?_, fun Φ hΦ => ?_, fun it hi => ?_⟩
    · rcases List.mem_cons.1 hi with rfl | hi
      · exact row_loc _ _ _ _ _ _ w w' (fun k hk => hag.blk (hlt k hk) (hfr k hk)) hr
      · exact S'.wd.held it hi
    · rcases List.mem_cons.1 hi with rfl | hi
      · exact fun k hk => Nat.lt_of_lt_of_le (hlt k hk) hag.size
      · exact S'.wd.lt it hi
    · rcases List.mem_cons.1 hi with rfl | hi
      · exact S1.wd.own _ (by simp)
      · exact S'.wd.own it hi
    · exact S1.wd.apart
    · have h1 := S1.wd.facts Φ hΦ
      exact fun w2 hw2 => h1 w2 ((hag.mono fun k _ ⟨it, hi, hk⟩ => ⟨it, List.mem_cons_of_mem _ hi, hk⟩).trans hw2)
    · rcases List.mem_cons.1 hi with rfl | hi
      · exact row_loc _ _ _ _ _ _
      · exact S'.wd.loc it hi
end
class PS (p : Option Addr) : Prop where ex : ∃ ad, p = some ad
section
variable {P : Program} {lc : Cx} {bs : List Item} {fs : List (World → Prop)} {x y : Operand} {p : Option Addr} {n c k sz o : Nat} {kk : IntKind} {m : Int} {t ty e : TypeId} {z : Value} {by_ : Nat}
end
class IfT (P : Program) (t : TypeId) : Prop where eq : P.underlying t = some (.interface (P.methodsAt t))
def errV (b : Bool) (te : TypeId) (pe : Value) : Value := if b then .nilIface else .iface te pe
theorem Agree.ofBelow {w w' : World} (h : Below w.heap.size w w') : Agree (fun _ => False) w w' := ⟨h.os, h.tape, h.output, h.size, fun k hk _ => h.block k hk⟩
end Go.Wk
namespace Go.Proofs.YtibkkbknnfehlaaGreatDoor
open Go Go.Wk
set_option synthInstance.maxSize 100000
set_option synthInstance.maxHeartbeats 400000
set_option maxRecDepth 100000
def rowS (s : List UInt8) (n : Int) : List UInt8 := s ++ [u8 (48 + n)]
theorem crow_c (s : List UInt8) (n : Int) (hn : 0 ≤ n ∧ n ≤ 9) (hs : s.length ≤ 1000) (w0 : World) : Ret Tryz.prog 51 [str s, .int .i64 n] w0 (fun _ => False) fun v _ => v = .string ⟨(rowS s n).toArray⟩ := by
  have ha : Ascii (48 + n) := ⟨by omega, by omega⟩
  have hb : LeC (s.length + [u8 (48 + n)].length) 4611686018427387904 := ⟨by simp; omega⟩
  have h32 : IntKind.i32.wrap (48 + n) = 48 + n := by
    have : n = 0 ∨ n = 1 ∨ n = 2 ∨ n = 3 ∨ n = 4 ∨ n = 5 ∨ n = 6 ∨ n = 7 ∨ n = 8 ∨ n = 9 := by omega
    rcases this with rfl | rfl | rfl | rfl | rfl | rfl | rfl | rfl | rfl | rfl <;> rfl
  refine enter Tryz.func51 rfl rfl (Wd.start w0) (fun a S => ?_)
  simp only [Tryz.ntmps51, List.length_cons, List.length_nil, Nat.reduceAdd, Nat.reduceSub, List.replicate_succ, List.replicate_zero, List.cons_append, List.nil_append] at S
  refine c_seq ?_; refine c_region ?_; refine sq S ?_; clear S; intro a S; refine wl_nil ?_; refine xtn ?_; refine c_seq ?_; refine c_region ?_; (iterate 3 (refine sq S ?_; clear S; intro a S))
  rw [w64 _ (by omega) (by omega)] at S
  refine sq S ?_; clear S; intro a S
  rw [h32] at S
  (iterate 3 (refine sq S ?_; clear S; intro a S)); refine wl_nil ?_; refine xtn ?_; refine c_ret ?_
  refine end1 S (fun _ => ?_)
  rfl
class Dig (n : Int) : Prop where
  lo : 0 ≤ n
  hi : n ≤ 9
instance {s : List UInt8} {n : Int} {bs fs} [hs : LeC s.length 1000] [hn : Dig n] : CallV Tryz.prog 51 [str s, .int .i64 n] bs fs (str (rowS s n)) := ⟨fun w _ => crow_c s n ⟨hn.lo, hn.hi⟩ hs.le w⟩
structure LKey where
  group : Int
  key : LTerm
instance encKey : Enc LKey := ⟨6, fun k => .int .i64 k.group :: k.key.cells, fun _ => rfl, fun x u hu => by
  rcases List.mem_cons.1 hu with rfl | hu
  · rfl
  · exact encT.one x.key u hu⟩
instance layKey : Lay LKey := { encKey with
  dflt := ⟨0, zeroL⟩
  inn := fun w k => LtIn w k.key
  mono := fun w w' x h hx => LtIn.mono h x.key hx }
instance : SzE LKey 6 := ⟨rfl, by decide⟩
abbrev cKey (k : LKey) : List Value := [.int .i64 k.group, .int .i64 k.key.kind, .int .i64 k.key.user, .int .i64 k.key.num, str k.key.text, .slice k.key.p k.key.kids.length k.key.cap]
instance {k : LKey} : CellsOf k [.int .i64 k.group, .int .i64 k.key.kind, .int .i64 k.key.user, .int .i64 k.key.num, str k.key.text, .slice k.key.p k.key.kids.length k.key.cap] := ⟨rfl⟩
abbrev vKey (k : LKey) : Value := .agg ⟨[.int .i64 k.group, .int .i64 k.key.kind, .int .i64 k.key.user, .int .i64 k.key.num, str k.key.text, .slice k.key.p k.key.kids.length k.key.cap]⟩
instance (priority := 850) hast_key {fs : List (World → Prop)} {k : LKey} [h : HasI fs k] : HasT fs k.key := ⟨fun M w hf => h.of M w hf⟩
def findG {α : Type} [Lay α] (q : α → Bool) (xs : List α) : α × Bool := match xs.find? q with | some x => (x, true) | none => (Lay.dflt, false)
theorem findG_idx {α : Type} [Lay α] (q : α → Bool) : ∀ (xs : List α) (o : Nat), (idxG q xs o = -1 ∧ findG q xs = (Lay.dflt, false)) ∨ ∃ i, idxG q xs o = ((o + i : Nat) : Int) ∧ i < xs.length ∧ findG q xs = (nthG xs i, true)
  | [], o => .inl ⟨rfl, rfl⟩
  | x :: xs, o => by
    rw [idxG, findG, List.find?]
    cases h : q x with
    | true => exact .inr ⟨0, by simp, by simp, by simp [nthG]⟩
    | false =>
      rcases findG_idx q xs (o + 1) with ⟨h1, h2⟩ | ⟨i, h1, h2, h3⟩
      · exact .inl ⟨by simpa using h1, h2⟩
      · refine .inr ⟨i + 1, ?_, by simp; omega, ?_⟩
        · rw [if_neg (by simp), show ((o : Int) + 1) = ((o + 1 : Nat) : Int) from rfl, h1]; omega
        · exact h3
theorem indexKey_c (F : Nat) [EntF Tryz.prog F] (ca : List Value) (q : LKey → Bool) (xs : List LKey) (p : Option Addr) (n c : Nat) (w0 : World) (hn : xs.length = n) (hl : n ≤ 9223372036854775807) (hx : Stable (fun _ => False) w0 (GlF p xs))
    (hF : ∀ x ∈ xs, ∀ w, Agree (fun _ => False) w0 w → Ret Tryz.prog F (vKey x :: ca) w (fun _ => False) fun v _ => v = .bool (q x)) :
    Ret Tryz.prog 84 [.slice p n c, .func (.func F) #[] ⟨ca⟩] w0 (fun _ => False) fun v _ => v = .int .i64 (idxG q xs 0) := by
  refine enter Tryz.func84 rfl rfl (Wd.begin (fs := [GlF p xs]) (by simpa using hx)) (fun a S => ?_)
  simp only [Tryz.ntmps84, List.length_cons, List.length_nil, Nat.reduceAdd, Nat.reduceSub, List.replicate_succ, List.replicate_zero, List.cons_append, List.nil_append] at S
  refine c_seq ?_; refine c_region ?_; refine sq S ?_; clear S; intro a S; refine wl_nil ?_; refine xtn ?_; (iterate 2 (refine c_seq ?_)); refine c_region ?_; (iterate 3 (refine sq S ?_; clear S; intro a S)); refine wl_nil ?_; refine xtn ?_; refine c_block ?_
  refine c_forb1 S (fun (k : Nat) uu => [(4, uu 4), (0, uu 5), (2, .int .i64 (k : Nat)), (0, uu 9), (0, uu 10), (0, uu 11), (0, uu 12), (0, uu 13), (0, uu 14), (0, uu 15), (0, uu 16), (0, uu 17), (0, uu 18)]) (fun (k : Nat) => k ≤ n ∧ idxG q (xs.drop k) k = idxG q xs 0) (fun (k : Nat) => n - k) (0) ?_ S.uu ?_ ?_
  · exact ⟨Nat.zero_le _, rfl⟩
  · first | exact S | exact S.sub _ _
  · clear S; rintro k uu a w ⟨hk, hrel⟩ S
    refine c_seq ?_; refine c_region ?_; refine sq S ?_; clear S; intro a S; refine wl_nil ?_; refine xtn ?_; refine c_seq ?_
    refine c_cond S (fun h2 => ?_) (fun h2 => ?_)
    · refine c_skip ?_; refine xtn ?_; refine c_seq ?_; refine c_block ?_; refine c_seq ?_; refine c_region ?_; (iterate 2 (refine sq S ?_; clear S; intro a S)); refine wl_nil ?_; refine xtn ?_; refine c_seq ?_
      have hkl : k < n := by simp at h2; omega
      have hK : KLt k n := ⟨hkl⟩
      have hK2 : KLt k xs.length := ⟨by omega⟩
      rw [nthG_drop (show k < xs.length by omega), idxG] at hrel
      refine c_region ?_; (iterate 5 (refine sq S ?_; clear S; intro a S))
      refine sr S (hF (nthG xs k) (nthG_mem (by omega)) w S.wd.agree) ?_; clear S; rintro _ a w rfl S
      refine wl_nil ?_; refine xtn ?_
      refine c_cond S (fun h4 => ?_) (fun h4 => ?_)
      · refine c_seq ?_; refine c_region ?_; (iterate 2 (refine sq S ?_; clear S; intro a S)); refine wl_nil ?_; refine xtn ?_; refine c_ret ?_; refine xbr ?_; (iterate 2 (refine xtr ?_)); refine xbr ?_; refine xtr ?_
        rw [if_pos h4] at hrel
        refine end1 S (fun _ => ?_)
        rw [hrel]
      · refine c_skip ?_; refine xbn ?_; refine xtn ?_; refine c_region ?_; (iterate 2 (refine sq S ?_; clear S; intro a S)); refine wl_nil ?_; refine xtn ?_
        rw [if_neg (by simpa using h4)] at hrel
        rw [w64 ((k : Int) + 1) (by omega) (by omega)] at S
        exact ⟨k + 1, S.uu, ⟨hkl, by rw [← hrel]; rfl⟩, S.sub _ _, by omega⟩
    · refine c_exit ?_; (iterate 2 (refine xte ?_)); refine xbe ?_; refine xtn ?_; refine c_seq ?_; refine c_region ?_; refine sq S ?_; clear S; intro a S; refine wl_nil ?_; refine xtn ?_; refine c_ret ?_
      rw [List.drop_of_length_le (by simp at h2; omega)] at hrel
      refine end1 S (fun _ => ?_)
      rw [← hrel]; rfl
theorem containsKey_c (F : Nat) [EntF Tryz.prog F] (ca : List Value) (q : LKey → Bool) (xs : List LKey) (p : Option Addr) (n c : Nat) (w0 : World) (hn : xs.length = n) (hl : n ≤ 9223372036854775807) (hx : Stable (fun _ => False) w0 (GlF p xs))
    (hF : ∀ x ∈ xs, ∀ w, Agree (fun _ => False) w0 w → Ret Tryz.prog F (vKey x :: ca) w (fun _ => False) fun v _ => v = .bool (q x)) :
    Ret Tryz.prog 46 [.slice p n c, .func (.func F) #[] ⟨ca⟩] w0 (fun _ => False) fun v _ => v = .bool (xs.any q) := by
  refine enter Tryz.func46 rfl rfl (Wd.begin (fs := [GlF p xs]) (by simpa using hx)) (fun a S => ?_)
  simp only [Tryz.ntmps46, List.length_cons, List.length_nil, Nat.reduceAdd, Nat.reduceSub, List.replicate_succ, List.replicate_zero, List.cons_append, List.nil_append] at S
  refine c_seq ?_; refine c_region ?_; refine sq S ?_; clear S; intro a S; refine wl_nil ?_; refine xtn ?_; refine c_seq ?_; refine c_region ?_; (iterate 2 (refine sq S ?_; clear S; intro a S))
  refine sr S (indexKey_c F ca q xs p n c _ hn hl (S.gl0 p) fun x hx w' hw' => hF x hx w' (S.wd.agree.trans hw')) ?_; clear S; rintro _ a w rfl S
  (iterate 2 (refine sq S ?_; clear S; intro a S)); refine wl_nil ?_; refine xtn ?_; refine c_ret ?_
  refine end1 S (fun _ => ?_)
  rw [idxG_any q xs 0 (by omega)]
theorem findKey_c (F : Nat) [EntF Tryz.prog F] (ca : List Value) (q : LKey → Bool) (xs : List LKey) (p : Option Addr) (n c : Nat) (w0 : World) (hn : xs.length = n) (hl : n ≤ 9223372036854775807) (hx : Stable (fun _ => False) w0 (GlF p xs))
    (hF : ∀ x ∈ xs, ∀ w, Agree (fun _ => False) w0 w → Ret Tryz.prog F (vKey x :: ca) w (fun _ => False) fun v _ => v = .bool (q x)) :
    Ret Tryz.prog 53 [.slice p n c, .func (.func F) #[] ⟨ca⟩] w0 (fun _ => False) fun v _ => v = .tuple ⟨[.agg ⟨cKey (findG q xs).1⟩, .bool (findG q xs).2]⟩ := by
  subst hn
  refine enter Tryz.func53 rfl rfl (Wd.begin (fs := [GlF p xs]) (by simpa using hx)) (fun a S => ?_)
  simp only [Tryz.ntmps53, List.length_cons, List.length_nil, Nat.reduceAdd, Nat.reduceSub, List.replicate_succ, List.replicate_zero, List.cons_append, List.nil_append] at S
  refine c_seq ?_; refine c_region ?_
  refine sa S ?_; clear S; intro b4 a w S
  refine sq S ?_; clear S; intro a S; refine wl_nil ?_; refine xtn ?_; (iterate 2 (refine c_seq ?_)); refine c_region ?_; (iterate 2 (refine sq S ?_; clear S; intro a S))
  refine sr S (indexKey_c F ca q xs p xs.length c _ rfl hl (S.gl0 p) fun x hx w' hw' => hF x hx w' (S.wd.agree.trans hw')) ?_; clear S; rintro _ a w rfl S
  refine sq S ?_; clear S; intro a S; refine wl_nil ?_; refine xtn ?_; refine c_seq ?_; refine c_region ?_; (iterate 2 (refine sq S ?_; clear S; intro a S)); refine wl_nil ?_; refine xtn ?_
  refine c_cond S (fun h2 => ?_) (fun h2 => ?_)
  · refine c_seq ?_
    obtain ⟨i, hi, hil, hfi⟩ : ∃ i : Nat, idxG q xs 0 = (i : Int) ∧ i < xs.length ∧ findG q xs = (nthG xs i, true) := by
      rcases findG_idx q xs 0 with ⟨h3, -⟩ | ⟨i, h3, h4, h5⟩
      · rw [show ((0 : Nat) : Int) = 0 from rfl] at h3; rw [h3] at h2; simp at h2
      · exact ⟨i, by simpa using h3, h4, h5⟩
    have hK : KLt i xs.length := ⟨hil⟩
    rw [hi] at S
    refine c_region ?_; (iterate 4 (refine sq S ?_; clear S; intro a S)); refine sw S ?_; clear S; intro a w S; refine sq S ?_; clear S; intro a S; refine wl_nil ?_; refine xtn ?_; refine c_ret ?_; refine xtr ?_
    refine end2 S (fun _ => ?_)
    rw [hfi]
  · refine c_skip ?_; refine xtn ?_; refine c_seq ?_; refine c_region ?_
    refine sa S ?_; clear S; intro b7 a w S
    refine wl_nil ?_; refine xtn ?_; refine c_seq ?_; refine c_region ?_; refine sq S ?_; clear S; intro a S; refine sw S ?_; clear S; intro a w S; refine sq S ?_; clear S; intro a S; refine wl_nil ?_; refine xtn ?_; refine c_ret ?_
    have hfi : findG q xs = (Lay.dflt, false) := by
      rcases findG_idx q xs 0 with ⟨-, h4⟩ | ⟨i, h3, h4, h5⟩
      · exact h4
      · rw [show ((0 : Nat) : Int) = 0 from rfl] at h3; rw [h3] at h2; simp at h2
    refine end2 S (fun _ => ?_)
    rw [hfi]; rfl
theorem make1_c (k : LKey) (w0 : World) (hf : Stable (fun _ => False) w0 (InF k)) : Ret Tryz.prog 47 [vKey k] w0 (fun _ => False) fun v _ => v = .bool (!decide (checkF k.key.t = 0)) := by
  refine enter Tryz.func47 rfl rfl (Wd.begin (fs := [InF k]) (by simpa using hf)) (fun a S => ?_)
  simp only [Tryz.ntmps47, List.length_cons, List.length_nil, Nat.reduceAdd, Nat.reduceSub, List.replicate_succ, List.replicate_zero, List.cons_append, List.nil_append] at S
  refine c_seq ?_; refine c_region ?_
  refine sa S ?_; clear S; intro b1 a w S
  refine sq S ?_; clear S; intro a S; refine wl_nil ?_; refine xtn ?_; refine c_seq ?_; refine c_region ?_; (iterate 2 (refine sq S ?_; clear S; intro a S)); refine sc S ?_; clear S; intro a w S; (iterate 2 (refine sq S ?_; clear S; intro a S)); refine wl_nil ?_; refine xtn ?_; refine c_ret ?_
  refine end1 S (fun _ => rfl)
theorem make3_c (b : Nat) (g : Int) (k : LKey) (w0 : World) (hb : Stable (fun _ => False) w0 (BoxF b 3 [.int .i64 g])) : Ret Tryz.prog 54 [vKey k, .pointer (some ⟨b, 0, none⟩)] w0 (fun _ => False) fun v _ => v = .bool (decide (k.group = g)) := by
  refine enter Tryz.func54 rfl rfl (Wd.begin (fs := [BoxF b 3 [.int .i64 g]]) (by simpa using hb)) (fun a S => ?_)
  simp only [Tryz.ntmps54, List.length_cons, List.length_nil, Nat.reduceAdd, Nat.reduceSub, List.replicate_succ, List.replicate_zero, List.cons_append, List.nil_append] at S
  refine c_seq ?_; refine c_region ?_
  refine sa S ?_; clear S; intro b2 a w S
  refine sq S ?_; clear S; intro a S; refine wl_nil ?_; refine xtn ?_; refine c_seq ?_; refine c_region ?_; (iterate 5 (refine sq S ?_; clear S; intro a S)); refine wl_nil ?_; refine xtn ?_; refine c_ret ?_
  refine end1 S (fun _ => rfl)
abbrev lsI (b : Nat) (p : Option Addr) (c : Nat) (os : List LTerm) : Wk.Item := both (Wk.box b 22 [.slice p os.length c]) (Wk.row 24 5 p os.length c (encL os))
def rowT (s : List UInt8) (t : Term) : Term := .pair (textT s) t
theorem make2_c (b9 : Nat) (os : List LTerm) (s : List UInt8) (t : LTerm) (p : Option Addr) (c : Nat) (Mr : Nat → Prop) (w0 : World) (hol : os.length ≤ 1000)
    (hout : (lsI b9 p c os).holds w0) (hMr : ∀ k, Mr k → k < w0.heap.size ∧ ¬ (lsI b9 p c os).foot k)
    (ht : Stable (fun k => (lsI b9 p c os).foot k ∨ Mr k) w0 (LtF t)) (ho : Stable (fun k => (lsI b9 p c os).foot k ∨ Mr k) w0 (AllI os)) :
    Ret Tryz.prog 48 [str s, vL t, .pointer (some ⟨b9, 0, none⟩)] w0 (lsI b9 p c os).foot fun v w' => v = .tuple #[] ∧ ∃ (p' : Option Addr) (c' : Nat) (r : LTerm), r.t = rowT s t.t ∧ (lsI b9 p' c' (os ++ [r])).holds w' ∧
      (∀ k, (lsI b9 p' c' (os ++ [r])).foot k → (lsI b9 p c os).foot k ∨ w0.heap.size ≤ k) ∧ Stable (fun k => (lsI b9 p' c' (os ++ [r])).foot k ∨ Mr k) w' (AllI (os ++ [r])) := by
  have hF : ∀ Φ ∈ [LtF t, AllI os], Stable (fun k => (lsI b9 p c os).foot k ∨ Mr k) w0 Φ := by simp; exact ⟨ht, ho⟩
  refine enter Tryz.func48 rfl rfl (Wd.it2LentM (fs := [LtF t, AllI os]) hout rfl rfl hMr hF) (fun a S => ?_)
  simp only [Tryz.ntmps48, List.length_cons, List.length_nil, Nat.reduceAdd, Nat.reduceSub, List.replicate_succ, List.replicate_zero, List.cons_append, List.nil_append] at S
  refine c_seq ?_; refine c_region ?_
  refine sa S ?_; clear S; intro b4 a w S
  refine wl_nil ?_; refine xtn ?_
  refine c_drwe3 (.q 1 (.q 3 (.b3 0 2 6 (.q 5 (.b2 2 6 (.b2 4 6 (.l 6 (.l 7 (.b2 8 10 (.b2 9 10 (.l 10 (.e)) (.l 9 (.e))) (.l 8 (.l 9 (.e)))))) (.l 4 (.l 7 (.b2 8 10 (.b2 9 10 (.l 10 (.e)) (.l 9 (.e))) (.l 8 (.l 9 (.e))))))) (.l 2 (.l 4 (.l 7 (.b2 8 10 (.b2 9 10 (.l 10 (.e)) (.l 9 (.e))) (.l 8 (.l 9 (.e))))))))) (.b3 0 4 6 (.q 5 (.b2 4 6 (.l 6 (.l 7 (.b2 8 10 (.b2 9 10 (.l 10 (.e)) (.l 9 (.e))) (.l 8 (.l 9 (.e)))))) (.l 4 (.l 7 (.b2 8 10 (.b2 9 10 (.l 10 (.e)) (.l 9 (.e))) (.l 8 (.l 9 (.e)))))))) (.b2 0 6 (.q 5 (.l 6 (.l 7 (.b2 8 10 (.b2 9 10 (.l 10 (.e)) (.l 9 (.e))) (.l 8 (.l 9 (.e))))))) (.l 0 (.q 5 (.l 7 (.b2 8 10 (.b2 9 10 (.l 10 (.e)) (.l 9 (.e))) (.l 8 (.l 9 (.e)))))))) (.b2 0 4 (.q 5 (.l 4 (.l 7 (.b2 8 10 (.b2 9 10 (.l 10 (.e)) (.l 9 (.e))) (.l 8 (.l 9 (.e))))))) (.l 0 (.q 5 (.l 7 (.b2 8 10 (.b2 9 10 (.l 10 (.e)) (.l 9 (.e))) (.l 8 (.l 9 (.e))))))))) (.b2 0 2 (.q 5 (.l 2 (.l 4 (.l 7 (.b2 8 10 (.b2 9 10 (.l 10 (.e)) (.l 9 (.e))) (.l 8 (.l 9 (.e)))))))) (.b2 0 4 (.q 5 (.l 4 (.l 7 (.b2 8 10 (.b2 9 10 (.l 10 (.e)) (.l 9 (.e))) (.l 8 (.l 9 (.e))))))) (.l 0 (.q 5 (.l 7 (.b2 8 10 (.b2 9 10 (.l 10 (.e)) (.l 9 (.e))) (.l 8 (.l 9 (.e)))))))))))) S (fun (p' : Option Addr) (c' : Nat) (r : LTerm) uu => [(5, uu 5), (0, uu 6), (0, uu 7), (0, uu 8), (0, uu 9), (0, uu 10), (0, uu 11), (0, uu 12), (0, uu 13)]) [Wk.box b4 24 t.cells, ext Mr] (fun (p' : Option Addr) (c' : Nat) (r : LTerm) => [Wk.box b9 22 [.slice p' (os.length + 1) c'], Wk.row 24 5 p' (os.length + 1) c' (encL (os ++ [r])), ext Mr]) (fun (p' : Option Addr) (c' : Nat) (r : LTerm) => [AllI (os ++ [r])]) (fun (p' : Option Addr) (c' : Nat) (r : LTerm) => r.t = rowT s t.t) ?_ ?_
  · intro w S
    (iterate 2 (refine tq S ?_; clear S; intro a S))
    refine tb3 ?_ ?_ ?_
    · refine sq S ?_; clear S; intro a S; refine te S ?_; refine tq S ?_; clear S; intro a S
      refine tb2 ?_ ?_
      · refine sc S ?_; clear S; intro a w S; refine te S ?_
        refine tb2 ?_ ?_
        · replace S := S.add (Φ := LtF (textL s)) (fun _ _ => by simp [LtIn, textL, LsIn, LtF])
          refine sr S (pair_c (textL s) t _ w (foots_lt S) (S.t _) (S.t t)) ?_; clear S; rintro _ a w ⟨r, rfl, hr, hrf⟩ S
          replace S := S.add hrf
          refine te S ?_; refine tl ?_
          refine sn S ?_; clear S; intro b11 a w S
          refine te S ?_; refine tl ?_
          refine sap S (by simp [maxLen]; omega) (by omega) ?_; clear S; rintro p3 c3 a w - S
          refine te S ?_
          refine tb2 ?_ ?_
          · have hKL : KLt os.length (os.length + 1) := ⟨by omega⟩
            refine sq S ?_; clear S; intro a S; refine te S ?_
            refine tb2 ?_ ?_
            · refine sws S (os.length + 1) (by omega) (by omega) ?_; clear S; intro a w S
              refine te S ?_; refine tl ?_; refine sw S ?_; clear S; intro a w S; refine te S ?_; refine tn ?_
              have e := own_put (A := encL os) (Z := [.int .i64 0, .int .i64 0, .int .i64 0, .string ⟨#[]⟩, .slice none 0 0]) (vs := r.cells) _ _ (show (encL os).length = os.length * 5 from encL_len os) rfl rfl
              rw [e, ← encT_cells, ← encL_append] at S
              have h1 : Stable _ _ (AllI os) := S.wd.facts (AllI os) (by simp)
              have h2 : Stable _ _ (LtF r) := S.wd.facts (LtF r) (by simp)
              replace S := S.add (AllI.snoc h1 h2)
              exact ⟨p3, c3, r, S.uu, hr, S.sub _ _⟩
            · refine sw S ?_; clear S; intro a w S; refine te S ?_; refine tl ?_
              refine sws S (os.length + 1) (by omega) (by omega) ?_; clear S; intro a w S
              refine te S ?_; refine tn ?_
              have e := own_put (A := encL os) (Z := [.int .i64 0, .int .i64 0, .int .i64 0, .string ⟨#[]⟩, .slice none 0 0]) (vs := r.cells) _ _ (show (encL os).length = os.length * 5 from encL_len os) rfl rfl
              rw [e, ← encT_cells, ← encL_append] at S
              have h1 : Stable _ _ (AllI os) := S.wd.facts (AllI os) (by simp)
              have h2 : Stable _ _ (LtF r) := S.wd.facts (LtF r) (by simp)
              replace S := S.add (AllI.snoc h1 h2)
              exact ⟨p3, c3, r, S.uu, hr, S.sub _ _⟩
          · refine sw S ?_; clear S; intro a w S; refine te S ?_; refine tl ?_
            have hKL : KLt os.length (os.length + 1) := ⟨by omega⟩
            refine sq S ?_; clear S; intro a S; refine te S ?_; refine tl ?_
            refine sws S (os.length + 1) (by omega) (by omega) ?_; clear S; intro a w S
            refine te S ?_; refine tn ?_
            have e := own_put (A := encL os) (Z := [.int .i64 0, .int .i64 0, .int .i64 0, .string ⟨#[]⟩, .slice none 0 0]) (vs := r.cells) _ _ (show (encL os).length = os.length * 5 from encL_len os) rfl rfl
            rw [e, ← encT_cells, ← encL_append] at S
            have h1 : Stable _ _ (AllI os) := S.wd.facts (AllI os) (by simp)
            have h2 : Stable _ _ (LtF r) := S.wd.facts (LtF r) (by simp)
            replace S := S.add (AllI.snoc h1 h2)
            exact ⟨p3, c3, r, S.uu, hr, S.sub _ _⟩
        · refine sn S ?_; clear S; intro b11 a w S
          refine te S ?_; refine tl ?_
          replace S := S.add (Φ := LtF (textL s)) (fun _ _ => by simp [LtIn, textL, LsIn, LtF])
          refine sr S (pair_c (textL s) t _ w (foots_lt S) (S.t _) (S.t t)) ?_; clear S; rintro _ a w ⟨r, rfl, hr, hrf⟩ S
          replace S := S.add hrf
          refine te S ?_; refine tl ?_
          refine sap S (by simp [maxLen]; omega) (by omega) ?_; clear S; rintro p3 c3 a w - S
          refine te S ?_
          refine tb2 ?_ ?_
          · have hKL : KLt os.length (os.length + 1) := ⟨by omega⟩
            refine sq S ?_; clear S; intro a S; refine te S ?_
            refine tb2 ?_ ?_
            · refine sws S (os.length + 1) (by omega) (by omega) ?_; clear S; intro a w S
              refine te S ?_; refine tl ?_; refine sw S ?_; clear S; intro a w S; refine te S ?_; refine tn ?_
              have e := own_put (A := encL os) (Z := [.int .i64 0, .int .i64 0, .int .i64 0, .string ⟨#[]⟩, .slice none 0 0]) (vs := r.cells) _ _ (show (encL os).length = os.length * 5 from encL_len os) rfl rfl
              rw [e, ← encT_cells, ← encL_append] at S
              have h1 : Stable _ _ (AllI os) := S.wd.facts (AllI os) (by simp)
              have h2 : Stable _ _ (LtF r) := S.wd.facts (LtF r) (by simp)
              replace S := S.add (AllI.snoc h1 h2)
              exact ⟨p3, c3, r, S.uu, hr, S.sub _ _⟩
            · refine sw S ?_; clear S; intro a w S; refine te S ?_; refine tl ?_
              refine sws S (os.length + 1) (by omega) (by omega) ?_; clear S; intro a w S
              refine te S ?_; refine tn ?_
              have e := own_put (A := encL os) (Z := [.int .i64 0, .int .i64 0, .int .i64 0, .string ⟨#[]⟩, .slice none 0 0]) (vs := r.cells) _ _ (show (encL os).length = os.length * 5 from encL_len os) rfl rfl
              rw [e, ← encT_cells, ← encL_append] at S
              have h1 : Stable _ _ (AllI os) := S.wd.facts (AllI os) (by simp)
              have h2 : Stable _ _ (LtF r) := S.wd.facts (LtF r) (by simp)
              replace S := S.add (AllI.snoc h1 h2)
              exact ⟨p3, c3, r, S.uu, hr, S.sub _ _⟩
          · refine sw S ?_; clear S; intro a w S; refine te S ?_; refine tl ?_
            have hKL : KLt os.length (os.length + 1) := ⟨by omega⟩
            refine sq S ?_; clear S; intro a S; refine te S ?_; refine tl ?_
            refine sws S (os.length + 1) (by omega) (by omega) ?_; clear S; intro a w S
            refine te S ?_; refine tn ?_
            have e := own_put (A := encL os) (Z := [.int .i64 0, .int .i64 0, .int .i64 0, .string ⟨#[]⟩, .slice none 0 0]) (vs := r.cells) _ _ (show (encL os).length = os.length * 5 from encL_len os) rfl rfl
            rw [e, ← encT_cells, ← encL_append] at S
            have h1 : Stable _ _ (AllI os) := S.wd.facts (AllI os) (by simp)
            have h2 : Stable _ _ (LtF r) := S.wd.facts (LtF r) (by simp)
            replace S := S.add (AllI.snoc h1 h2)
            exact ⟨p3, c3, r, S.uu, hr, S.sub _ _⟩
      · refine sn S ?_; clear S; intro b11 a w S
        refine te S ?_; refine tl ?_; refine sc S ?_; clear S; intro a w S; refine te S ?_; refine tl ?_
        replace S := S.add (Φ := LtF (textL s)) (fun _ _ => by simp [LtIn, textL, LsIn, LtF])
        refine sr S (pair_c (textL s) t _ w (foots_lt S) (S.t _) (S.t t)) ?_; clear S; rintro _ a w ⟨r, rfl, hr, hrf⟩ S
        replace S := S.add hrf
        refine te S ?_; refine tl ?_
        refine sap S (by simp [maxLen]; omega) (by omega) ?_; clear S; rintro p3 c3 a w - S
        refine te S ?_
        refine tb2 ?_ ?_
        · have hKL : KLt os.length (os.length + 1) := ⟨by omega⟩
          refine sq S ?_; clear S; intro a S; refine te S ?_
          refine tb2 ?_ ?_
          · refine sws S (os.length + 1) (by omega) (by omega) ?_; clear S; intro a w S
            refine te S ?_; refine tl ?_; refine sw S ?_; clear S; intro a w S; refine te S ?_; refine tn ?_
            have e := own_put (A := encL os) (Z := [.int .i64 0, .int .i64 0, .int .i64 0, .string ⟨#[]⟩, .slice none 0 0]) (vs := r.cells) _ _ (show (encL os).length = os.length * 5 from encL_len os) rfl rfl
            rw [e, ← encT_cells, ← encL_append] at S
            have h1 : Stable _ _ (AllI os) := S.wd.facts (AllI os) (by simp)
            have h2 : Stable _ _ (LtF r) := S.wd.facts (LtF r) (by simp)
            replace S := S.add (AllI.snoc h1 h2)
            exact ⟨p3, c3, r, S.uu, hr, S.sub _ _⟩
          · refine sw S ?_; clear S; intro a w S; refine te S ?_; refine tl ?_
            refine sws S (os.length + 1) (by omega) (by omega) ?_; clear S; intro a w S
            refine te S ?_; refine tn ?_
            have e := own_put (A := encL os) (Z := [.int .i64 0, .int .i64 0, .int .i64 0, .string ⟨#[]⟩, .slice none 0 0]) (vs := r.cells) _ _ (show (encL os).length = os.length * 5 from encL_len os) rfl rfl
            rw [e, ← encT_cells, ← encL_append] at S
            have h1 : Stable _ _ (AllI os) := S.wd.facts (AllI os) (by simp)
            have h2 : Stable _ _ (LtF r) := S.wd.facts (LtF r) (by simp)
            replace S := S.add (AllI.snoc h1 h2)
            exact ⟨p3, c3, r, S.uu, hr, S.sub _ _⟩
        · refine sw S ?_; clear S; intro a w S; refine te S ?_; refine tl ?_
          have hKL : KLt os.length (os.length + 1) := ⟨by omega⟩
          refine sq S ?_; clear S; intro a S; refine te S ?_; refine tl ?_
          refine sws S (os.length + 1) (by omega) (by omega) ?_; clear S; intro a w S
          refine te S ?_; refine tn ?_
          have e := own_put (A := encL os) (Z := [.int .i64 0, .int .i64 0, .int .i64 0, .string ⟨#[]⟩, .slice none 0 0]) (vs := r.cells) _ _ (show (encL os).length = os.length * 5 from encL_len os) rfl rfl
          rw [e, ← encT_cells, ← encL_append] at S
          have h1 : Stable _ _ (AllI os) := S.wd.facts (AllI os) (by simp)
          have h2 : Stable _ _ (LtF r) := S.wd.facts (LtF r) (by simp)
          replace S := S.add (AllI.snoc h1 h2)
          exact ⟨p3, c3, r, S.uu, hr, S.sub _ _⟩
    · refine sc S ?_; clear S; intro a w S; refine te S ?_
      refine tb3 ?_ ?_ ?_
      · refine sq S ?_; clear S; intro a S; refine te S ?_; refine tq S ?_; clear S; intro a S
        refine tb2 ?_ ?_
        · replace S := S.add (Φ := LtF (textL s)) (fun _ _ => by simp [LtIn, textL, LsIn, LtF])
          refine sr S (pair_c (textL s) t _ w (foots_lt S) (S.t _) (S.t t)) ?_; clear S; rintro _ a w ⟨r, rfl, hr, hrf⟩ S
          replace S := S.add hrf
          refine te S ?_; refine tl ?_
          refine sn S ?_; clear S; intro b11 a w S
          refine te S ?_; refine tl ?_
          refine sap S (by simp [maxLen]; omega) (by omega) ?_; clear S; rintro p3 c3 a w - S
          refine te S ?_
          refine tb2 ?_ ?_
          · have hKL : KLt os.length (os.length + 1) := ⟨by omega⟩
            refine sq S ?_; clear S; intro a S; refine te S ?_
            refine tb2 ?_ ?_
            · refine sws S (os.length + 1) (by omega) (by omega) ?_; clear S; intro a w S
              refine te S ?_; refine tl ?_; refine sw S ?_; clear S; intro a w S; refine te S ?_; refine tn ?_
              have e := own_put (A := encL os) (Z := [.int .i64 0, .int .i64 0, .int .i64 0, .string ⟨#[]⟩, .slice none 0 0]) (vs := r.cells) _ _ (show (encL os).length = os.length * 5 from encL_len os) rfl rfl
              rw [e, ← encT_cells, ← encL_append] at S
              have h1 : Stable _ _ (AllI os) := S.wd.facts (AllI os) (by simp)
              have h2 : Stable _ _ (LtF r) := S.wd.facts (LtF r) (by simp)
              replace S := S.add (AllI.snoc h1 h2)
              exact ⟨p3, c3, r, S.uu, hr, S.sub _ _⟩
            · refine sw S ?_; clear S; intro a w S; refine te S ?_; refine tl ?_
              refine sws S (os.length + 1) (by omega) (by omega) ?_; clear S; intro a w S
              refine te S ?_; refine tn ?_
              have e := own_put (A := encL os) (Z := [.int .i64 0, .int .i64 0, .int .i64 0, .string ⟨#[]⟩, .slice none 0 0]) (vs := r.cells) _ _ (show (encL os).length = os.length * 5 from encL_len os) rfl rfl
              rw [e, ← encT_cells, ← encL_append] at S
              have h1 : Stable _ _ (AllI os) := S.wd.facts (AllI os) (by simp)
              have h2 : Stable _ _ (LtF r) := S.wd.facts (LtF r) (by simp)
              replace S := S.add (AllI.snoc h1 h2)
              exact ⟨p3, c3, r, S.uu, hr, S.sub _ _⟩
          · refine sw S ?_; clear S; intro a w S; refine te S ?_; refine tl ?_
            have hKL : KLt os.length (os.length + 1) := ⟨by omega⟩
            refine sq S ?_; clear S; intro a S; refine te S ?_; refine tl ?_
            refine sws S (os.length + 1) (by omega) (by omega) ?_; clear S; intro a w S
            refine te S ?_; refine tn ?_
            have e := own_put (A := encL os) (Z := [.int .i64 0, .int .i64 0, .int .i64 0, .string ⟨#[]⟩, .slice none 0 0]) (vs := r.cells) _ _ (show (encL os).length = os.length * 5 from encL_len os) rfl rfl
            rw [e, ← encT_cells, ← encL_append] at S
            have h1 : Stable _ _ (AllI os) := S.wd.facts (AllI os) (by simp)
            have h2 : Stable _ _ (LtF r) := S.wd.facts (LtF r) (by simp)
            replace S := S.add (AllI.snoc h1 h2)
            exact ⟨p3, c3, r, S.uu, hr, S.sub _ _⟩
        · refine sn S ?_; clear S; intro b11 a w S
          refine te S ?_; refine tl ?_
          replace S := S.add (Φ := LtF (textL s)) (fun _ _ => by simp [LtIn, textL, LsIn, LtF])
          refine sr S (pair_c (textL s) t _ w (foots_lt S) (S.t _) (S.t t)) ?_; clear S; rintro _ a w ⟨r, rfl, hr, hrf⟩ S
          replace S := S.add hrf
          refine te S ?_; refine tl ?_
          refine sap S (by simp [maxLen]; omega) (by omega) ?_; clear S; rintro p3 c3 a w - S
          refine te S ?_
          refine tb2 ?_ ?_
          · have hKL : KLt os.length (os.length + 1) := ⟨by omega⟩
            refine sq S ?_; clear S; intro a S; refine te S ?_
            refine tb2 ?_ ?_
            · refine sws S (os.length + 1) (by omega) (by omega) ?_; clear S; intro a w S
              refine te S ?_; refine tl ?_; refine sw S ?_; clear S; intro a w S; refine te S ?_; refine tn ?_
              have e := own_put (A := encL os) (Z := [.int .i64 0, .int .i64 0, .int .i64 0, .string ⟨#[]⟩, .slice none 0 0]) (vs := r.cells) _ _ (show (encL os).length = os.length * 5 from encL_len os) rfl rfl
              rw [e, ← encT_cells, ← encL_append] at S
              have h1 : Stable _ _ (AllI os) := S.wd.facts (AllI os) (by simp)
              have h2 : Stable _ _ (LtF r) := S.wd.facts (LtF r) (by simp)
              replace S := S.add (AllI.snoc h1 h2)
              exact ⟨p3, c3, r, S.uu, hr, S.sub _ _⟩
            · refine sw S ?_; clear S; intro a w S; refine te S ?_; refine tl ?_
              refine sws S (os.length + 1) (by omega) (by omega) ?_; clear S; intro a w S
              refine te S ?_; refine tn ?_
              have e := own_put (A := encL os) (Z := [.int .i64 0, .int .i64 0, .int .i64 0, .string ⟨#[]⟩, .slice none 0 0]) (vs := r.cells) _ _ (show (encL os).length = os.length * 5 from encL_len os) rfl rfl
              rw [e, ← encT_cells, ← encL_append] at S
              have h1 : Stable _ _ (AllI os) := S.wd.facts (AllI os) (by simp)
              have h2 : Stable _ _ (LtF r) := S.wd.facts (LtF r) (by simp)
              replace S := S.add (AllI.snoc h1 h2)
              exact ⟨p3, c3, r, S.uu, hr, S.sub _ _⟩
          · refine sw S ?_; clear S; intro a w S; refine te S ?_; refine tl ?_
            have hKL : KLt os.length (os.length + 1) := ⟨by omega⟩
            refine sq S ?_; clear S; intro a S; refine te S ?_; refine tl ?_
            refine sws S (os.length + 1) (by omega) (by omega) ?_; clear S; intro a w S
            refine te S ?_; refine tn ?_
            have e := own_put (A := encL os) (Z := [.int .i64 0, .int .i64 0, .int .i64 0, .string ⟨#[]⟩, .slice none 0 0]) (vs := r.cells) _ _ (show (encL os).length = os.length * 5 from encL_len os) rfl rfl
            rw [e, ← encT_cells, ← encL_append] at S
            have h1 : Stable _ _ (AllI os) := S.wd.facts (AllI os) (by simp)
            have h2 : Stable _ _ (LtF r) := S.wd.facts (LtF r) (by simp)
            replace S := S.add (AllI.snoc h1 h2)
            exact ⟨p3, c3, r, S.uu, hr, S.sub _ _⟩
      · replace S := S.add (Φ := LtF (textL s)) (fun _ _ => by simp [LtIn, textL, LsIn, LtF])
        refine sr S (pair_c (textL s) t _ w (foots_lt S) (S.t _) (S.t t)) ?_; clear S; rintro _ a w ⟨r, rfl, hr, hrf⟩ S
        replace S := S.add hrf
        refine te S ?_
        refine tb2 ?_ ?_
        · refine sq S ?_; clear S; intro a S; refine te S ?_; refine tq S ?_; clear S; intro a S; refine tl ?_
          refine sn S ?_; clear S; intro b11 a w S
          refine te S ?_; refine tl ?_
          refine sap S (by simp [maxLen]; omega) (by omega) ?_; clear S; rintro p3 c3 a w - S
          refine te S ?_
          refine tb2 ?_ ?_
          · have hKL : KLt os.length (os.length + 1) := ⟨by omega⟩
            refine sq S ?_; clear S; intro a S; refine te S ?_
            refine tb2 ?_ ?_
            · refine sws S (os.length + 1) (by omega) (by omega) ?_; clear S; intro a w S
              refine te S ?_; refine tl ?_; refine sw S ?_; clear S; intro a w S; refine te S ?_; refine tn ?_
              have e := own_put (A := encL os) (Z := [.int .i64 0, .int .i64 0, .int .i64 0, .string ⟨#[]⟩, .slice none 0 0]) (vs := r.cells) _ _ (show (encL os).length = os.length * 5 from encL_len os) rfl rfl
              rw [e, ← encT_cells, ← encL_append] at S
              have h1 : Stable _ _ (AllI os) := S.wd.facts (AllI os) (by simp)
              have h2 : Stable _ _ (LtF r) := S.wd.facts (LtF r) (by simp)
              replace S := S.add (AllI.snoc h1 h2)
              exact ⟨p3, c3, r, S.uu, hr, S.sub _ _⟩
            · refine sw S ?_; clear S; intro a w S; refine te S ?_; refine tl ?_
              refine sws S (os.length + 1) (by omega) (by omega) ?_; clear S; intro a w S
              refine te S ?_; refine tn ?_
              have e := own_put (A := encL os) (Z := [.int .i64 0, .int .i64 0, .int .i64 0, .string ⟨#[]⟩, .slice none 0 0]) (vs := r.cells) _ _ (show (encL os).length = os.length * 5 from encL_len os) rfl rfl
              rw [e, ← encT_cells, ← encL_append] at S
              have h1 : Stable _ _ (AllI os) := S.wd.facts (AllI os) (by simp)
              have h2 : Stable _ _ (LtF r) := S.wd.facts (LtF r) (by simp)
              replace S := S.add (AllI.snoc h1 h2)
              exact ⟨p3, c3, r, S.uu, hr, S.sub _ _⟩
          · refine sw S ?_; clear S; intro a w S; refine te S ?_; refine tl ?_
            have hKL : KLt os.length (os.length + 1) := ⟨by omega⟩
            refine sq S ?_; clear S; intro a S; refine te S ?_; refine tl ?_
            refine sws S (os.length + 1) (by omega) (by omega) ?_; clear S; intro a w S
            refine te S ?_; refine tn ?_
            have e := own_put (A := encL os) (Z := [.int .i64 0, .int .i64 0, .int .i64 0, .string ⟨#[]⟩, .slice none 0 0]) (vs := r.cells) _ _ (show (encL os).length = os.length * 5 from encL_len os) rfl rfl
            rw [e, ← encT_cells, ← encL_append] at S
            have h1 : Stable _ _ (AllI os) := S.wd.facts (AllI os) (by simp)
            have h2 : Stable _ _ (LtF r) := S.wd.facts (LtF r) (by simp)
            replace S := S.add (AllI.snoc h1 h2)
            exact ⟨p3, c3, r, S.uu, hr, S.sub _ _⟩
        · refine sn S ?_; clear S; intro b11 a w S
          refine te S ?_; refine tl ?_; refine sq S ?_; clear S; intro a S; refine te S ?_; refine tq S ?_; clear S; intro a S; refine tl ?_
          refine sap S (by simp [maxLen]; omega) (by omega) ?_; clear S; rintro p3 c3 a w - S
          refine te S ?_
          refine tb2 ?_ ?_
          · have hKL : KLt os.length (os.length + 1) := ⟨by omega⟩
            refine sq S ?_; clear S; intro a S; refine te S ?_
            refine tb2 ?_ ?_
            · refine sws S (os.length + 1) (by omega) (by omega) ?_; clear S; intro a w S
              refine te S ?_; refine tl ?_; refine sw S ?_; clear S; intro a w S; refine te S ?_; refine tn ?_
              have e := own_put (A := encL os) (Z := [.int .i64 0, .int .i64 0, .int .i64 0, .string ⟨#[]⟩, .slice none 0 0]) (vs := r.cells) _ _ (show (encL os).length = os.length * 5 from encL_len os) rfl rfl
              rw [e, ← encT_cells, ← encL_append] at S
              have h1 : Stable _ _ (AllI os) := S.wd.facts (AllI os) (by simp)
              have h2 : Stable _ _ (LtF r) := S.wd.facts (LtF r) (by simp)
              replace S := S.add (AllI.snoc h1 h2)
              exact ⟨p3, c3, r, S.uu, hr, S.sub _ _⟩
            · refine sw S ?_; clear S; intro a w S; refine te S ?_; refine tl ?_
              refine sws S (os.length + 1) (by omega) (by omega) ?_; clear S; intro a w S
              refine te S ?_; refine tn ?_
              have e := own_put (A := encL os) (Z := [.int .i64 0, .int .i64 0, .int .i64 0, .string ⟨#[]⟩, .slice none 0 0]) (vs := r.cells) _ _ (show (encL os).length = os.length * 5 from encL_len os) rfl rfl
              rw [e, ← encT_cells, ← encL_append] at S
              have h1 : Stable _ _ (AllI os) := S.wd.facts (AllI os) (by simp)
              have h2 : Stable _ _ (LtF r) := S.wd.facts (LtF r) (by simp)
              replace S := S.add (AllI.snoc h1 h2)
              exact ⟨p3, c3, r, S.uu, hr, S.sub _ _⟩
          · refine sw S ?_; clear S; intro a w S; refine te S ?_; refine tl ?_
            have hKL : KLt os.length (os.length + 1) := ⟨by omega⟩
            refine sq S ?_; clear S; intro a S; refine te S ?_; refine tl ?_
            refine sws S (os.length + 1) (by omega) (by omega) ?_; clear S; intro a w S
            refine te S ?_; refine tn ?_
            have e := own_put (A := encL os) (Z := [.int .i64 0, .int .i64 0, .int .i64 0, .string ⟨#[]⟩, .slice none 0 0]) (vs := r.cells) _ _ (show (encL os).length = os.length * 5 from encL_len os) rfl rfl
            rw [e, ← encT_cells, ← encL_append] at S
            have h1 : Stable _ _ (AllI os) := S.wd.facts (AllI os) (by simp)
            have h2 : Stable _ _ (LtF r) := S.wd.facts (LtF r) (by simp)
            replace S := S.add (AllI.snoc h1 h2)
            exact ⟨p3, c3, r, S.uu, hr, S.sub _ _⟩
      · refine sn S ?_; clear S; intro b11 a w S
        refine te S ?_
        refine tb2 ?_ ?_
        · refine sq S ?_; clear S; intro a S; refine te S ?_; refine tq S ?_; clear S; intro a S; refine tl ?_
          replace S := S.add (Φ := LtF (textL s)) (fun _ _ => by simp [LtIn, textL, LsIn, LtF])
          refine sr S (pair_c (textL s) t _ w (foots_lt S) (S.t _) (S.t t)) ?_; clear S; rintro _ a w ⟨r, rfl, hr, hrf⟩ S
          replace S := S.add hrf
          refine te S ?_; refine tl ?_
          refine sap S (by simp [maxLen]; omega) (by omega) ?_; clear S; rintro p3 c3 a w - S
          refine te S ?_
          refine tb2 ?_ ?_
          · have hKL : KLt os.length (os.length + 1) := ⟨by omega⟩
            refine sq S ?_; clear S; intro a S; refine te S ?_
            refine tb2 ?_ ?_
            · refine sws S (os.length + 1) (by omega) (by omega) ?_; clear S; intro a w S
              refine te S ?_; refine tl ?_; refine sw S ?_; clear S; intro a w S; refine te S ?_; refine tn ?_
              have e := own_put (A := encL os) (Z := [.int .i64 0, .int .i64 0, .int .i64 0, .string ⟨#[]⟩, .slice none 0 0]) (vs := r.cells) _ _ (show (encL os).length = os.length * 5 from encL_len os) rfl rfl
              rw [e, ← encT_cells, ← encL_append] at S
              have h1 : Stable _ _ (AllI os) := S.wd.facts (AllI os) (by simp)
              have h2 : Stable _ _ (LtF r) := S.wd.facts (LtF r) (by simp)
              replace S := S.add (AllI.snoc h1 h2)
              exact ⟨p3, c3, r, S.uu, hr, S.sub _ _⟩
            · refine sw S ?_; clear S; intro a w S; refine te S ?_; refine tl ?_
              refine sws S (os.length + 1) (by omega) (by omega) ?_; clear S; intro a w S
              refine te S ?_; refine tn ?_
              have e := own_put (A := encL os) (Z := [.int .i64 0, .int .i64 0, .int .i64 0, .string ⟨#[]⟩, .slice none 0 0]) (vs := r.cells) _ _ (show (encL os).length = os.length * 5 from encL_len os) rfl rfl
              rw [e, ← encT_cells, ← encL_append] at S
              have h1 : Stable _ _ (AllI os) := S.wd.facts (AllI os) (by simp)
              have h2 : Stable _ _ (LtF r) := S.wd.facts (LtF r) (by simp)
              replace S := S.add (AllI.snoc h1 h2)
              exact ⟨p3, c3, r, S.uu, hr, S.sub _ _⟩
          · refine sw S ?_; clear S; intro a w S; refine te S ?_; refine tl ?_
            have hKL : KLt os.length (os.length + 1) := ⟨by omega⟩
            refine sq S ?_; clear S; intro a S; refine te S ?_; refine tl ?_
            refine sws S (os.length + 1) (by omega) (by omega) ?_; clear S; intro a w S
            refine te S ?_; refine tn ?_
            have e := own_put (A := encL os) (Z := [.int .i64 0, .int .i64 0, .int .i64 0, .string ⟨#[]⟩, .slice none 0 0]) (vs := r.cells) _ _ (show (encL os).length = os.length * 5 from encL_len os) rfl rfl
            rw [e, ← encT_cells, ← encL_append] at S
            have h1 : Stable _ _ (AllI os) := S.wd.facts (AllI os) (by simp)
            have h2 : Stable _ _ (LtF r) := S.wd.facts (LtF r) (by simp)
            replace S := S.add (AllI.snoc h1 h2)
            exact ⟨p3, c3, r, S.uu, hr, S.sub _ _⟩
        · replace S := S.add (Φ := LtF (textL s)) (fun _ _ => by simp [LtIn, textL, LsIn, LtF])
          refine sr S (pair_c (textL s) t _ w (foots_lt S) (S.t _) (S.t t)) ?_; clear S; rintro _ a w ⟨r, rfl, hr, hrf⟩ S
          replace S := S.add hrf
          refine te S ?_; refine tl ?_; refine sq S ?_; clear S; intro a S; refine te S ?_; refine tq S ?_; clear S; intro a S; refine tl ?_
          refine sap S (by simp [maxLen]; omega) (by omega) ?_; clear S; rintro p3 c3 a w - S
          refine te S ?_
          refine tb2 ?_ ?_
          · have hKL : KLt os.length (os.length + 1) := ⟨by omega⟩
            refine sq S ?_; clear S; intro a S; refine te S ?_
            refine tb2 ?_ ?_
            · refine sws S (os.length + 1) (by omega) (by omega) ?_; clear S; intro a w S
              refine te S ?_; refine tl ?_; refine sw S ?_; clear S; intro a w S; refine te S ?_; refine tn ?_
              have e := own_put (A := encL os) (Z := [.int .i64 0, .int .i64 0, .int .i64 0, .string ⟨#[]⟩, .slice none 0 0]) (vs := r.cells) _ _ (show (encL os).length = os.length * 5 from encL_len os) rfl rfl
              rw [e, ← encT_cells, ← encL_append] at S
              have h1 : Stable _ _ (AllI os) := S.wd.facts (AllI os) (by simp)
              have h2 : Stable _ _ (LtF r) := S.wd.facts (LtF r) (by simp)
              replace S := S.add (AllI.snoc h1 h2)
              exact ⟨p3, c3, r, S.uu, hr, S.sub _ _⟩
            · refine sw S ?_; clear S; intro a w S; refine te S ?_; refine tl ?_
              refine sws S (os.length + 1) (by omega) (by omega) ?_; clear S; intro a w S
              refine te S ?_; refine tn ?_
              have e := own_put (A := encL os) (Z := [.int .i64 0, .int .i64 0, .int .i64 0, .string ⟨#[]⟩, .slice none 0 0]) (vs := r.cells) _ _ (show (encL os).length = os.length * 5 from encL_len os) rfl rfl
              rw [e, ← encT_cells, ← encL_append] at S
              have h1 : Stable _ _ (AllI os) := S.wd.facts (AllI os) (by simp)
              have h2 : Stable _ _ (LtF r) := S.wd.facts (LtF r) (by simp)
              replace S := S.add (AllI.snoc h1 h2)
              exact ⟨p3, c3, r, S.uu, hr, S.sub _ _⟩
          · refine sw S ?_; clear S; intro a w S; refine te S ?_; refine tl ?_
            have hKL : KLt os.length (os.length + 1) := ⟨by omega⟩
            refine sq S ?_; clear S; intro a S; refine te S ?_; refine tl ?_
            refine sws S (os.length + 1) (by omega) (by omega) ?_; clear S; intro a w S
            refine te S ?_; refine tn ?_
            have e := own_put (A := encL os) (Z := [.int .i64 0, .int .i64 0, .int .i64 0, .string ⟨#[]⟩, .slice none 0 0]) (vs := r.cells) _ _ (show (encL os).length = os.length * 5 from encL_len os) rfl rfl
            rw [e, ← encT_cells, ← encL_append] at S
            have h1 : Stable _ _ (AllI os) := S.wd.facts (AllI os) (by simp)
            have h2 : Stable _ _ (LtF r) := S.wd.facts (LtF r) (by simp)
            replace S := S.add (AllI.snoc h1 h2)
            exact ⟨p3, c3, r, S.uu, hr, S.sub _ _⟩
    · refine sn S ?_; clear S; intro b11 a w S
      refine te S ?_
      refine tb2 ?_ ?_
      · refine sq S ?_; clear S; intro a S; refine te S ?_; refine tq S ?_; clear S; intro a S; refine tl ?_; refine sc S ?_; clear S; intro a w S; refine te S ?_; refine tl ?_
        replace S := S.add (Φ := LtF (textL s)) (fun _ _ => by simp [LtIn, textL, LsIn, LtF])
        refine sr S (pair_c (textL s) t _ w (foots_lt S) (S.t _) (S.t t)) ?_; clear S; rintro _ a w ⟨r, rfl, hr, hrf⟩ S
        replace S := S.add hrf
        refine te S ?_; refine tl ?_
        refine sap S (by simp [maxLen]; omega) (by omega) ?_; clear S; rintro p3 c3 a w - S
        refine te S ?_
        refine tb2 ?_ ?_
        · have hKL : KLt os.length (os.length + 1) := ⟨by omega⟩
          refine sq S ?_; clear S; intro a S; refine te S ?_
          refine tb2 ?_ ?_
          · refine sws S (os.length + 1) (by omega) (by omega) ?_; clear S; intro a w S
            refine te S ?_; refine tl ?_; refine sw S ?_; clear S; intro a w S; refine te S ?_; refine tn ?_
            have e := own_put (A := encL os) (Z := [.int .i64 0, .int .i64 0, .int .i64 0, .string ⟨#[]⟩, .slice none 0 0]) (vs := r.cells) _ _ (show (encL os).length = os.length * 5 from encL_len os) rfl rfl
            rw [e, ← encT_cells, ← encL_append] at S
            have h1 : Stable _ _ (AllI os) := S.wd.facts (AllI os) (by simp)
            have h2 : Stable _ _ (LtF r) := S.wd.facts (LtF r) (by simp)
            replace S := S.add (AllI.snoc h1 h2)
            exact ⟨p3, c3, r, S.uu, hr, S.sub _ _⟩
          · refine sw S ?_; clear S; intro a w S; refine te S ?_; refine tl ?_
            refine sws S (os.length + 1) (by omega) (by omega) ?_; clear S; intro a w S
            refine te S ?_; refine tn ?_
            have e := own_put (A := encL os) (Z := [.int .i64 0, .int .i64 0, .int .i64 0, .string ⟨#[]⟩, .slice none 0 0]) (vs := r.cells) _ _ (show (encL os).length = os.length * 5 from encL_len os) rfl rfl
            rw [e, ← encT_cells, ← encL_append] at S
            have h1 : Stable _ _ (AllI os) := S.wd.facts (AllI os) (by simp)
            have h2 : Stable _ _ (LtF r) := S.wd.facts (LtF r) (by simp)
            replace S := S.add (AllI.snoc h1 h2)
            exact ⟨p3, c3, r, S.uu, hr, S.sub _ _⟩
        · refine sw S ?_; clear S; intro a w S; refine te S ?_; refine tl ?_
          have hKL : KLt os.length (os.length + 1) := ⟨by omega⟩
          refine sq S ?_; clear S; intro a S; refine te S ?_; refine tl ?_
          refine sws S (os.length + 1) (by omega) (by omega) ?_; clear S; intro a w S
          refine te S ?_; refine tn ?_
          have e := own_put (A := encL os) (Z := [.int .i64 0, .int .i64 0, .int .i64 0, .string ⟨#[]⟩, .slice none 0 0]) (vs := r.cells) _ _ (show (encL os).length = os.length * 5 from encL_len os) rfl rfl
          rw [e, ← encT_cells, ← encL_append] at S
          have h1 : Stable _ _ (AllI os) := S.wd.facts (AllI os) (by simp)
          have h2 : Stable _ _ (LtF r) := S.wd.facts (LtF r) (by simp)
          replace S := S.add (AllI.snoc h1 h2)
          exact ⟨p3, c3, r, S.uu, hr, S.sub _ _⟩
      · refine sc S ?_; clear S; intro a w S; refine te S ?_
        refine tb2 ?_ ?_
        · refine sq S ?_; clear S; intro a S; refine te S ?_; refine tq S ?_; clear S; intro a S; refine tl ?_
          replace S := S.add (Φ := LtF (textL s)) (fun _ _ => by simp [LtIn, textL, LsIn, LtF])
          refine sr S (pair_c (textL s) t _ w (foots_lt S) (S.t _) (S.t t)) ?_; clear S; rintro _ a w ⟨r, rfl, hr, hrf⟩ S
          replace S := S.add hrf
          refine te S ?_; refine tl ?_
          refine sap S (by simp [maxLen]; omega) (by omega) ?_; clear S; rintro p3 c3 a w - S
          refine te S ?_
          refine tb2 ?_ ?_
          · have hKL : KLt os.length (os.length + 1) := ⟨by omega⟩
            refine sq S ?_; clear S; intro a S; refine te S ?_
            refine tb2 ?_ ?_
            · refine sws S (os.length + 1) (by omega) (by omega) ?_; clear S; intro a w S
              refine te S ?_; refine tl ?_; refine sw S ?_; clear S; intro a w S; refine te S ?_; refine tn ?_
              have e := own_put (A := encL os) (Z := [.int .i64 0, .int .i64 0, .int .i64 0, .string ⟨#[]⟩, .slice none 0 0]) (vs := r.cells) _ _ (show (encL os).length = os.length * 5 from encL_len os) rfl rfl
              rw [e, ← encT_cells, ← encL_append] at S
              have h1 : Stable _ _ (AllI os) := S.wd.facts (AllI os) (by simp)
              have h2 : Stable _ _ (LtF r) := S.wd.facts (LtF r) (by simp)
              replace S := S.add (AllI.snoc h1 h2)
              exact ⟨p3, c3, r, S.uu, hr, S.sub _ _⟩
            · refine sw S ?_; clear S; intro a w S; refine te S ?_; refine tl ?_
              refine sws S (os.length + 1) (by omega) (by omega) ?_; clear S; intro a w S
              refine te S ?_; refine tn ?_
              have e := own_put (A := encL os) (Z := [.int .i64 0, .int .i64 0, .int .i64 0, .string ⟨#[]⟩, .slice none 0 0]) (vs := r.cells) _ _ (show (encL os).length = os.length * 5 from encL_len os) rfl rfl
              rw [e, ← encT_cells, ← encL_append] at S
              have h1 : Stable _ _ (AllI os) := S.wd.facts (AllI os) (by simp)
              have h2 : Stable _ _ (LtF r) := S.wd.facts (LtF r) (by simp)
              replace S := S.add (AllI.snoc h1 h2)
              exact ⟨p3, c3, r, S.uu, hr, S.sub _ _⟩
          · refine sw S ?_; clear S; intro a w S; refine te S ?_; refine tl ?_
            have hKL : KLt os.length (os.length + 1) := ⟨by omega⟩
            refine sq S ?_; clear S; intro a S; refine te S ?_; refine tl ?_
            refine sws S (os.length + 1) (by omega) (by omega) ?_; clear S; intro a w S
            refine te S ?_; refine tn ?_
            have e := own_put (A := encL os) (Z := [.int .i64 0, .int .i64 0, .int .i64 0, .string ⟨#[]⟩, .slice none 0 0]) (vs := r.cells) _ _ (show (encL os).length = os.length * 5 from encL_len os) rfl rfl
            rw [e, ← encT_cells, ← encL_append] at S
            have h1 : Stable _ _ (AllI os) := S.wd.facts (AllI os) (by simp)
            have h2 : Stable _ _ (LtF r) := S.wd.facts (LtF r) (by simp)
            replace S := S.add (AllI.snoc h1 h2)
            exact ⟨p3, c3, r, S.uu, hr, S.sub _ _⟩
        · replace S := S.add (Φ := LtF (textL s)) (fun _ _ => by simp [LtIn, textL, LsIn, LtF])
          refine sr S (pair_c (textL s) t _ w (foots_lt S) (S.t _) (S.t t)) ?_; clear S; rintro _ a w ⟨r, rfl, hr, hrf⟩ S
          replace S := S.add hrf
          refine te S ?_; refine tl ?_; refine sq S ?_; clear S; intro a S; refine te S ?_; refine tq S ?_; clear S; intro a S; refine tl ?_
          refine sap S (by simp [maxLen]; omega) (by omega) ?_; clear S; rintro p3 c3 a w - S
          refine te S ?_
          refine tb2 ?_ ?_
          · have hKL : KLt os.length (os.length + 1) := ⟨by omega⟩
            refine sq S ?_; clear S; intro a S; refine te S ?_
            refine tb2 ?_ ?_
            · refine sws S (os.length + 1) (by omega) (by omega) ?_; clear S; intro a w S
              refine te S ?_; refine tl ?_; refine sw S ?_; clear S; intro a w S; refine te S ?_; refine tn ?_
              have e := own_put (A := encL os) (Z := [.int .i64 0, .int .i64 0, .int .i64 0, .string ⟨#[]⟩, .slice none 0 0]) (vs := r.cells) _ _ (show (encL os).length = os.length * 5 from encL_len os) rfl rfl
              rw [e, ← encT_cells, ← encL_append] at S
              have h1 : Stable _ _ (AllI os) := S.wd.facts (AllI os) (by simp)
              have h2 : Stable _ _ (LtF r) := S.wd.facts (LtF r) (by simp)
              replace S := S.add (AllI.snoc h1 h2)
              exact ⟨p3, c3, r, S.uu, hr, S.sub _ _⟩
            · refine sw S ?_; clear S; intro a w S; refine te S ?_; refine tl ?_
              refine sws S (os.length + 1) (by omega) (by omega) ?_; clear S; intro a w S
              refine te S ?_; refine tn ?_
              have e := own_put (A := encL os) (Z := [.int .i64 0, .int .i64 0, .int .i64 0, .string ⟨#[]⟩, .slice none 0 0]) (vs := r.cells) _ _ (show (encL os).length = os.length * 5 from encL_len os) rfl rfl
              rw [e, ← encT_cells, ← encL_append] at S
              have h1 : Stable _ _ (AllI os) := S.wd.facts (AllI os) (by simp)
              have h2 : Stable _ _ (LtF r) := S.wd.facts (LtF r) (by simp)
              replace S := S.add (AllI.snoc h1 h2)
              exact ⟨p3, c3, r, S.uu, hr, S.sub _ _⟩
          · refine sw S ?_; clear S; intro a w S; refine te S ?_; refine tl ?_
            have hKL : KLt os.length (os.length + 1) := ⟨by omega⟩
            refine sq S ?_; clear S; intro a S; refine te S ?_; refine tl ?_
            refine sws S (os.length + 1) (by omega) (by omega) ?_; clear S; intro a w S
            refine te S ?_; refine tn ?_
            have e := own_put (A := encL os) (Z := [.int .i64 0, .int .i64 0, .int .i64 0, .string ⟨#[]⟩, .slice none 0 0]) (vs := r.cells) _ _ (show (encL os).length = os.length * 5 from encL_len os) rfl rfl
            rw [e, ← encT_cells, ← encL_append] at S
            have h1 : Stable _ _ (AllI os) := S.wd.facts (AllI os) (by simp)
            have h2 : Stable _ _ (LtF r) := S.wd.facts (LtF r) (by simp)
            replace S := S.add (AllI.snoc h1 h2)
            exact ⟨p3, c3, r, S.uu, hr, S.sub _ _⟩
  clear S; rintro p' c' r uu a w hr S
  have hf := S.wd.facts (AllI (os ++ [r])) (by simp)
  have hn8 := S.itNew (Wk.box b9 22 [.slice p' (os.length + 1) c'])
  have hnr := S.itNew (Wk.row 24 5 p' (os.length + 1) c' (encL (os ++ [r])))
  have hb := (S.toBoth).it (both (Wk.box b9 22 [.slice p' (os.length + 1) c']) (Wk.row 24 5 p' (os.length + 1) c' (encL (os ++ [r]))))
  rw [show os.length + 1 = (os ++ [r]).length from by simp] at hb hnr hn8 hf
  refine end0 S (fun _ => ⟨rfl, p', c', r, hr, hb, fun k hk => hk.elim (hn8 k) (hnr k), hf.less fun k _ hk => ?_⟩)
  rcases hk with (hk | hk) | hk
  · exact ⟨_, by simp, hk⟩
  · exact ⟨_, List.mem_cons_of_mem _ (List.mem_cons_self ..), hk⟩
  · exact ⟨ext Mr, by simp, hk⟩
theorem risF_all (q : Int → Bool) : ∀ (xs : List Int) (o : Option Int), risF q o xs = true → (∀ x ∈ xs, q x = true) ∧ xs.Pairwise (· < ·) ∧ ∀ y, o = some y → ∀ x ∈ xs, y < x
  | [], o, _ => ⟨nofun, .nil, nofun⟩
  | x :: xs, o, h => by
    rw [risF_cons, Bool.and_eq_true, Bool.and_eq_true] at h
    obtain ⟨⟨h1, h2⟩, h3⟩ := h
    obtain ⟨i1, i2, i3⟩ := risF_all q xs (some x) h3
    refine ⟨fun y hy => ?_, List.pairwise_cons.2 ⟨fun y hy => i3 x rfl y hy, i2⟩, fun y hy z hz => ?_⟩
    · rcases List.mem_cons.1 hy with rfl | hy
      · exact h1
      · exact i1 y hy
    · subst hy
      have h4 : y < x := by simpa using h2
      rcases List.mem_cons.1 hz with rfl | hz
      · exact h4
      · have := i3 x rfl z hz; omega
structure PermOk (p : LPerm) : Prop where
  owner : 1 ≤ p.owner ∧ p.owner ≤ 6
  rdU : ∀ x ∈ p.rd.xs, 1 ≤ x ∧ x ≤ 6
  rdO : p.owner ∉ p.rd.xs
  rd : p.rd.xs.Pairwise (· < ·)
  grU : ∀ x ∈ p.gr.xs, 1 ≤ x ∧ x ≤ 3
  gr : p.gr.xs.Pairwise (· < ·)
theorem permOk {p : LPerm} (h : permB p = true) : PermOk p := by
  unfold permB at h
  simp only [Bool.and_eq_true] at h
  obtain ⟨⟨⟨⟨⟨⟨h1, -⟩, -⟩, h2⟩, -⟩, h3⟩, -⟩ := h
  obtain ⟨a1, a2, -⟩ := risF_all _ _ _ h2
  obtain ⟨b1, b2, -⟩ := risF_all _ _ _ h3
  refine ⟨by simpa [okU] using h1, fun x hx => ?_, fun hx => ?_, a2, fun x hx => by simpa [okG] using b1 x hx, b2⟩
  · have := a1 x hx
    simp [okU] at this; omega
  · have := a1 _ hx
    simp at this
theorem rising_len {lo hi : Int} : ∀ {xs : List Int}, xs.Pairwise (· < ·) → (∀ x ∈ xs, lo ≤ x ∧ x ≤ hi) → (xs.length : Int) ≤ max 0 (hi - lo + 1)
  | [], _, _ => by simp; omega
  | x :: xs, h, hx => by
    have h1 := List.pairwise_cons.1 h
    have h2 := hx x (by simp)
    have ih := rising_len (lo := x + 1) (hi := hi) h1.2 fun y hy => by have := h1.1 y hy; have := hx y (by simp [hy]); omega
    simp only [List.length_cons]
    omega
def keyT (keys : List LKey) (g : Int) : Term := (findG (fun k => decide (k.group = g)) keys).1.key.t
def uBox (s : Term) (n : Int) : Term := rowT (rowS [117] n) (sealT n s)
def gBox (s : Term) (kt : Int → Term) (g : Int) : Term := rowT (rowS [103] g) (lockT (kt g) s)
def boxesT (us gs : List Int) (s : Term) (kt : Int → Term) : List Term := us.map (uBox s) ++ gs.map (gBox s kt)
def MakeR (M : Nat → Prop) (p : LPerm) (s : Term) (keys : List LKey) (v : Value) (w : World) : Prop :=
  (permB p = false ∧ v = .tuple ⟨[vL zeroL, .int .i64 210]⟩) ∨ (permB p = true ∧ ∃ (us : List Int) (r : LTerm), us.Perm (p.owner :: p.rd.xs) ∧ us.Pairwise (· < ·) ∧ v = .tuple ⟨[vL r, .int .i64 0]⟩ ∧ r.t = listT (boxesT us p.gr.xs s (keyT keys)) ∧ Good r.t ∧ Stable M w (LtF r))
def SmallT (t : Term) : Prop := Good t ∧ cnt t ≤ 3 ∧ dpt t ≤ 3
theorem uBox_ok {s : Term} {n : Int} (hs : SmallT s) (hn : 1 ≤ n ∧ n ≤ 6) : Good (uBox s n) ∧ cnt (uBox s n) ≤ 20 ∧ dpt (uBox s n) ≤ 20 := by
  obtain ⟨h1, h2, h3⟩ := hs
  have e1 : cnt (sealT n s) = 1 + cnt s := by simp [sealT, cnt, cntL]
  have e2 : dpt (sealT n s) = 1 + dpt s := by simp [sealT, dpt, dptL]
  have e3 : ∀ x, cnt (textT x) = 1 := fun x => by simp [textT, cnt, cntL]
  have e4 : ∀ x, dpt (textT x) = 1 := fun x => by simp [textT, dpt, dptL]
  rw [uBox, rowT, cnt_pair, dpt_pair, e1, e2, e3, e4]
  exact ⟨good_pair (good_text (by simp [rowS])) (good_seal hn h1 (by omega) (by omega)) (by rw [e1, e3]; omega) (by rw [e4]; omega) (by rw [e2]; omega), by omega, by omega⟩
theorem gBox_ok {s : Term} {kt : Int → Term} {g : Int} (hs : SmallT s) (hk : SmallT (kt g)) : Good (gBox s kt g) ∧ cnt (gBox s kt g) ≤ 20 ∧ dpt (gBox s kt g) ≤ 20 := by
  obtain ⟨h1, h2, h3⟩ := hs
  obtain ⟨k1, k2, k3⟩ := hk
  have e1 : cnt (lockT (kt g) s) = 1 + (cnt (kt g) + cnt s) := by simp [lockT, cnt, cntL]
  have e2 : dpt (lockT (kt g) s) = 1 + max (dpt (kt g)) (dpt s) := by simp [lockT, dpt, dptL]
  have e3 : ∀ x, cnt (textT x) = 1 := fun x => by simp [textT, cnt, cntL]
  have e4 : ∀ x, dpt (textT x) = 1 := fun x => by simp [textT, dpt, dptL]
  rw [gBox, rowT, cnt_pair, dpt_pair, e1, e2, e3, e4]
  exact ⟨good_pair (good_text (by simp [rowS])) (good_lock k1 h1 (by omega) (by omega) (by omega)) (by rw [e1, e3]; omega) (by rw [e4]; omega) (by rw [e2]; omega), by omega, by omega⟩
theorem make_c (p : LPerm) (st : LTerm) (keys : List LKey) (kp : Option Addr) (kc : Nat) (M : Nat → Prop) (w0 : World) (hM : ∀ k, M k → k < w0.heap.size) (hp : Stable M w0 (InF p)) (hst : Stable M w0 (LtF st)) (hk : Stable M w0 (GlF kp keys)) (hkl : keys.length ≤ 1000)
    (hs : SmallT st.t) (hgk : ∀ k ∈ keys, SmallT k.key.t) (hg : ∀ g ∈ p.gr.xs, 1 ≤ g → g ≤ 3 → ∃ k ∈ keys, k.group = g) :
    Ret Tryz.prog 17 [vPerm p, vL st, .slice kp keys.length kc] w0 (fun _ => False) (MakeR M p st.t keys) := by
  have hfind : ∀ g ∈ p.gr.xs, 1 ≤ g → g ≤ 3 → ∃ k ∈ keys, findG (fun k => decide (k.group = g)) keys = (k, true) := fun g h1 h2 h3 => by
    obtain ⟨k, hk, hkg⟩ := hg g h1 h2 h3
    unfold findG
    cases h : keys.find? fun k => decide (k.group = g) with
    | some x => exact ⟨x, List.mem_of_find?_eq_some h, rfl⟩
    | none => have := List.find?_eq_none.1 h k hk; simp [hkg] at this
  have hany : (keys.any fun k => !decide (checkF k.key.t = 0)) = false := by
    rw [List.any_eq_false]
    intro k hk
    simp [good_check.2 (hgk k hk).1]
  have hu1 : LeC ([117] : List UInt8).length 1000 := ⟨by decide⟩
  have hg1 : LeC ([103] : List UInt8).length 1000 := ⟨by decide⟩
  refine enter Tryz.func17 rfl rfl (Wd.beginM (M := M) (fs := [InF p, LtF st, GlF kp keys]) hM (by simp; exact ⟨hp, hst, hk⟩)) (fun a S => ?_)
  simp only [Tryz.ntmps17, List.length_cons, List.length_nil, Nat.reduceAdd, Nat.reduceSub, List.replicate_succ, List.replicate_zero, List.cons_append, List.nil_append] at S
  refine c_seq ?_; refine c_region ?_
  refine sa S ?_; clear S; intro b3 a w S
  refine sa S ?_; clear S; intro b4 a w S
  refine sa S ?_; clear S; intro b6 a w S
  refine sq S ?_; clear S; intro a S; refine wl_nil ?_; refine xtn ?_; (iterate 2 (refine c_seq ?_)); refine c_region ?_; refine sq S ?_; clear S; intro a S; refine sc S ?_; clear S; intro a w S; refine sq S ?_; clear S; intro a S; refine wl_nil ?_; refine xtn ?_; refine c_seq ?_; refine c_region ?_; (iterate 2 (refine sq S ?_; clear S; intro a S)); refine wl_nil ?_; refine xtn ?_
  refine c_cond S (fun h2 => ?_) (fun h2 => ?_)
  · refine c_seq ?_; refine c_region ?_; (iterate 2 (refine sq S ?_; clear S; intro a S)); refine sw S ?_; clear S; intro a w S; refine sq S ?_; clear S; intro a S; refine wl_nil ?_; refine xtn ?_; refine c_ret ?_; refine xtr ?_
    have e : permB p = false := by
      cases h : permB p with
      | false => rfl
      | true => simp [permF, h] at h2
    refine end2 S (fun _ => .inl ⟨e, ?_⟩)
    rw [permF, e]; rfl
  · refine c_skip ?_; refine xtn ?_; (iterate 2 (refine c_seq ?_))
    have hP : permB p = true := by
      cases h : permB p with
      | true => rfl
      | false => simp [permF, h] at h2
    have hO := permOk hP
    have hrl : (p.rd.xs.length : Int) ≤ max 0 (6 - 1 + 1) := rising_len hO.rd hO.rdU
    have hgl : (p.gr.xs.length : Int) ≤ max 0 (3 - 1 + 1) := rising_len hO.gr hO.grU
    refine c_region ?_; refine sq S ?_; clear S; intro a S; refine sc S ?_; clear S; intro a w S
    rw [good_check.2 hs.1] at S
    refine sq S ?_; clear S; intro a S
    rw [show (!decide ((0 : Int) = 0)) = false from rfl] at S
    refine sq S ?_; clear S; intro a S; refine gT' S ?_; refine sq S ?_; clear S; intro a S; refine gT' S ?_
    refine sr S (containsKey_c 47 [] (fun k => !decide (checkF k.key.t = 0)) keys kp keys.length kc _ rfl (by omega) (S.gl0 kp) fun x hx w' hw' => make1_c x w' ?_) ?_
    · exact ((S.gl0 kp (xs := keys)).imp fun _ h => h.2 x hx).later hw'
    clear S; rintro _ a w rfl S
    rw [hany] at S
    refine sq S ?_; clear S; intro a S; refine wl_nil ?_; refine xtn ?_; refine c_condF S ?_; refine c_skip ?_; refine xtn ?_; refine c_seq ?_; refine c_region ?_
    refine sa S ?_; clear S; intro b9 a w S
    refine wl_nil ?_; refine xtn ?_; refine c_seq ?_; refine c_region ?_; (iterate 2 (refine sq S ?_; clear S; intro a S)); refine wl_nil ?_; refine xtn ?_; refine c_seq ?_; refine c_region ?_; (iterate 2 (refine sq S ?_; clear S; intro a S))
    refine sn S ?_; clear S; intro b36 a w S
    (iterate 2 (refine sq S ?_; clear S; intro a S))
    replace S := S.boxRow b36 1 1 rfl (by simp [maxLen])
    refine sap S (by simp [maxLen]; omega) (by omega) ?_; clear S; rintro p8 c8 a w - S
    rw [show [Value.int .i64 p.owner] ++ encL p.rd.xs = encL (p.owner :: p.rd.xs) from rfl, show 1 + p.rd.xs.length = (p.owner :: p.rd.xs).length from by simp; omega] at S
    refine sq S ?_; clear S; intro a S; refine wl_nil ?_; refine xtn ?_; refine c_seq ?_; refine c_region ?_; refine sq S ?_; clear S; intro a S
    refine sit (Wk.row 3 1 p8 (p.owner :: p.rd.xs).length c8 (encL (p.owner :: p.rd.xs))) S (sortI_c (p.owner :: p.rd.xs) p8 c8 w (by simp) (by simp; omega) (S.row p8 _)) rfl ?_; clear S; rintro _ a w ⟨rfl, us, hperm, hsort, hown⟩ hS
    have S := hS (Wk.row 3 1 p8 (p.owner :: p.rd.xs).length c8 (encL us)) hown (fun k hk => .inl hk)
    clear hS
    have hul : us.length = (p.owner :: p.rd.xs).length := hperm.length_eq
    replace S := S.rowToGl (e := 3) (sz := 1) (n := (p.owner :: p.rd.xs).length) (c := c8) p8 us (fun _ _ _ _ => trivial)
    rw [← hul] at S
    replace S := S.boxToF b3
    replace S := S.boxToF b4
    refine wl_nil ?_; refine xtn ?_; (iterate 2 (refine c_seq ?_))
    have huU : ∀ n ∈ us, 1 ≤ n ∧ n ≤ 6 := fun n hn => by
      rcases List.mem_cons.1 (hperm.mem_iff.1 hn) with rfl | h
      · exact hO.owner
      · exact hO.rdU n h
    have hul6 : us.length ≤ 7 := by rw [hul]; simp; omega
    refine c_region ?_; (iterate 3 (refine sq S ?_; clear S; intro a S)); refine wl_nil ?_; refine xtn ?_; refine c_block ?_
    replace S := (S.addNil 24 5).perm _ (List.Perm.swap _ _ _)
    replace S := S.toBoth
    refine c_fore4 S (fun (k : Nat) (os : List LTerm) (p' : Option Addr) (c' : Nat) uu => [(13, uu 13), (30, .int .i64 (k : Nat)), (0, uu 45), (0, uu 46), (0, uu 47), (0, uu 48), (0, uu 49), (0, uu 50), (0, uu 51), (0, uu 52), (0, uu 53), (0, uu 54), (0, uu 55)]) (fun (k : Nat) (os : List LTerm) (p' : Option Addr) (c' : Nat) => [lsI b9 p' c' os, Wk.box b6 24 zeroL.cells, ext M]) (fun (k : Nat) (os : List LTerm) (p' : Option Addr) (c' : Nat) => [AllI os, BoxF b4 24 st.cells, BoxF b3 29 (cPerm p), GlF p8 us, InF p, LtF st, GlF kp keys]) (fun (k : Nat) (os : List LTerm) (p' : Option Addr) (c' : Nat) => k ≤ us.length ∧ os.map LTerm.t = (us.take k).map (uBox st.t)) (fun (k : Nat) (os : List LTerm) (p' : Option Addr) (c' : Nat) => us.length - k) (0) ([]) (none) (0) ?_ S.uu ?_ ?_
    · exact ⟨Nat.zero_le _, rfl⟩
    · exact S.add (Φ := AllI (α := LTerm) []) AllI.nil
    · clear S; rintro k os p' c' uu a w ⟨hkk, hos⟩ S
      refine c_seq ?_; refine c_region ?_; refine sq S ?_; clear S; intro a S; refine wl_nil ?_; refine xtn ?_; refine c_seq ?_
      refine c_cond S (fun h11 => ?_) (fun h11 => ?_)
      · refine c_skip ?_; refine xtn ?_; refine c_seq ?_; refine c_block ?_; refine c_seq ?_
        have hkl1 : k < us.length := by simp at h11; omega
        have hK : KLt k us.length := ⟨hkl1⟩
        have hD : Dig (nthG us k) := ⟨by have := huU _ (nthG_mem hkl1); omega, by have := huU _ (nthG_mem hkl1); omega⟩
        have hosl : os.length = k := by have := congrArg List.length hos; simpa [Nat.min_eq_left hkk] using this
        refine c_region ?_; (iterate 3 (refine sq S ?_; clear S; intro a S)); refine wl_nil ?_; refine xtn ?_
        refine c_drawE [(0, true), (1, true), (3, true), (4, true), (2, false), (5, false), (6, false)] [Wk.box b6 24 zeroL.cells, ext M] S ?_; clear S; intro w S
        (iterate 4 (refine dq S ?_; clear S; intro a S)); refine dl ?_; refine sc S ?_; clear S; intro a w S; refine de S ?_; refine dl ?_
        refine sr S (seal_c (nthG us k) st _ w (foots_lt S) (S.t st)) ?_; clear S; rintro _ a w ⟨r0, rfl, hr0, hrf⟩ S
        replace S := S.add hrf
        refine de S ?_; refine dl ?_
        have h1 := S.wd.facts (AllI os) (by simp)
        have h2 := S.t r0
        refine sitM (lsI b9 p' c' os) S (make2_c b9 os (rowS [117] (nthG us k)) r0 p' c' (restOf _ (lsI b9 p' c' os)) w (by omega) (S.it (lsI b9 p' c' os)) (S.restOk _) (h2.split (lsI b9 p' c' os)) (h1.split (lsI b9 p' c' os))) rfl ?_
        clear S h1 h2; rintro _ a w ⟨rfl, p2, c2, r, hr, hh, hft, hfa⟩ hS
        have S := hS (lsI b9 p2 c2 (os ++ [r])) [AllI (os ++ [r])] hh hft (by simpa using hfa)
        clear hS
        refine de S ?_; refine dn ?_; refine xbn ?_; refine xtn ?_; refine c_region ?_; (iterate 2 (refine sq S ?_; clear S; intro a S)); refine wl_nil ?_; refine xtn ?_
        rw [w64 ((k : Int) + 1) (by omega) (by omega)] at S
        exact ⟨k + 1, os ++ [r], p2, c2, S.uu, ⟨hkl1, by rw [List.map_append, hos, nthG_take hkl1, List.map_append]; simp [hr, hr0, uBox]⟩, S.sub _ _, by omega⟩
      · refine c_exit ?_; (iterate 2 (refine xte ?_)); refine xbe ?_; refine xtn ?_; (iterate 2 (refine c_seq ?_)); refine c_region ?_; (iterate 4 (refine sq S ?_; clear S; intro a S)); refine wl_nil ?_; refine xtn ?_; refine c_block ?_
        have hos1 : os.map LTerm.t = us.map (uBox st.t) := by rw [List.take_of_length_le (by simp at h11; omega)] at hos; exact hos
        refine c_fore4 S (fun (k : Nat) (os2 : List LTerm) (q' : Option Addr) (d' : Nat) uu => [(7, uu 7), (7, uu 15), (0, uu 16), (0, uu 17), (41, .int .i64 (k : Nat)), (0, uu 60), (0, uu 61), (0, uu 62), (0, uu 63), (0, uu 64), (0, uu 65), (0, uu 66), (0, uu 67), (0, uu 68), (0, uu 69), (0, uu 70), (0, uu 71), (0, uu 72), (0, uu 73), (0, uu 74), (0, uu 75), (0, uu 76), (0, uu 77), (0, uu 78), (0, uu 79), (0, uu 80)]) (fun (k : Nat) (os2 : List LTerm) (q' : Option Addr) (d' : Nat) => [lsI b9 q' d' os2, Wk.box b6 24 zeroL.cells, ext M]) (fun (k : Nat) (os2 : List LTerm) (q' : Option Addr) (d' : Nat) => [AllI os2, BoxF b4 24 st.cells, BoxF b3 29 (cPerm p), GlF p8 us, InF p, LtF st, GlF kp keys]) (fun (k : Nat) (os2 : List LTerm) (q' : Option Addr) (d' : Nat) => k ≤ p.gr.xs.length ∧ os2.map LTerm.t = us.map (uBox st.t) ++ (p.gr.xs.take k).map (gBox st.t (keyT keys))) (fun (k : Nat) (os2 : List LTerm) (q' : Option Addr) (d' : Nat) => p.gr.xs.length - k) (0) (os) (p') (c') ?_ S.uu ?_ ?_
        · exact ⟨Nat.zero_le _, by simpa using hos1⟩
        · first | exact S | exact S.sub _ _
        · clear S; rintro k os2 q' d' uu a w ⟨hkk2, hos2⟩ S
          refine c_seq ?_; refine c_region ?_; refine sq S ?_; clear S; intro a S; refine wl_nil ?_; refine xtn ?_; refine c_seq ?_
          refine c_cond S (fun h16 => ?_) (fun h16 => ?_)
          · refine c_skip ?_; refine xtn ?_; refine c_seq ?_; refine c_block ?_; refine c_seq ?_
            have hkl2 : k < p.gr.xs.length := by simp at h16; omega
            have hK2 : KLt k p.gr.xs.length := ⟨hkl2⟩
            have hgU := hO.grU _ (nthG_mem hkl2)
            have hD2 : Dig (nthG p.gr.xs k) := ⟨by omega, by omega⟩
            obtain ⟨kk, hkm, hkf⟩ := hfind _ (nthG_mem hkl2) hgU.1 hgU.2
            have hkT : keyT keys (nthG p.gr.xs k) = kk.key.t := by rw [keyT, hkf]
            have hos2l : os2.length ≤ 20 := by have := congrArg List.length hos2; simp at this; omega
            refine c_region ?_; (iterate 2 (refine sq S ?_; clear S; intro a S))
            refine sa S ?_; clear S; intro b15 a w S
            refine sw S ?_; clear S; intro a w S; refine wl_nil ?_; refine xtn ?_; refine c_seq ?_; refine c_region ?_; (iterate 2 (refine sq S ?_; clear S; intro a S))
            refine sr S (findKey_c 54 [.pointer (some ⟨b15, 0, none⟩)] (fun k' => decide (k'.group = nthG p.gr.xs k)) keys kp keys.length kc _ rfl (by omega) (S.gl0 kp) fun x hx w' hw' => make3_c b15 _ x w' ((BoxF.stable (S.boxF b15) (fun h => h)).later hw')) ?_
            clear S; rintro _ a w rfl S
            rw [hkf] at S
            replace S := S.add (Φ := InF kk) ((S.gl kp (xs := keys)).imp fun _ h => h.2 kk hkm)
            (iterate 3 (refine sq S ?_; clear S; intro a S))
            refine sa S ?_; clear S; intro b16 a w S
            refine sw S ?_; clear S; intro a w S; refine sq S ?_; clear S; intro a S; refine wl_nil ?_; refine xtn ?_; (iterate 2 (refine c_seq ?_)); refine c_region ?_; (iterate 2 (refine sq S ?_; clear S; intro a S))
            rw [show (!true) = false from rfl] at S
            refine wl_nil ?_; refine xtn ?_; refine c_condF S ?_; refine c_skip ?_; refine xtn ?_
            refine c_drawE [(0, true), (1, true), (3, true), (4, true), (5, true), (2, false), (6, false), (7, false)] [Wk.box b16 84 (cKey kk), Wk.box b15 3 [.int .i64 (nthG p.gr.xs k)], Wk.box b6 24 zeroL.cells, ext M] S ?_; clear S; intro w S
            (iterate 5 (refine dq S ?_; clear S; intro a S)); refine dl ?_; refine sc S ?_; clear S; intro a w S; refine de S ?_; refine dl ?_
            refine sr S (lock_c kk.key st _ w (foots_lt S) (S.t kk.key) (S.t st)) ?_; clear S; rintro _ a w ⟨r0, rfl, hr0, hrf⟩ S
            replace S := S.add hrf
            refine de S ?_; refine dl ?_
            have h1 := S.wd.facts (AllI os2) (by simp)
            have h2 := S.t r0
            refine sitM (lsI b9 q' d' os2) S (make2_c b9 os2 (rowS [103] (nthG p.gr.xs k)) r0 q' d' (restOf _ (lsI b9 q' d' os2)) w (by omega) (S.it (lsI b9 q' d' os2)) (S.restOk _) (h2.split (lsI b9 q' d' os2)) (h1.split (lsI b9 q' d' os2))) rfl ?_
            clear S h1 h2; rintro _ a w ⟨rfl, p2, c2, r, hr, hh, hft, hfa⟩ hS
            have S := hS (lsI b9 p2 c2 (os2 ++ [r])) [AllI (os2 ++ [r])] hh hft (by simpa using hfa)
            clear hS
            refine de S ?_; refine dn ?_; refine xbn ?_; refine xtn ?_; refine c_region ?_; (iterate 2 (refine sq S ?_; clear S; intro a S)); refine wl_nil ?_; refine xtn ?_
            rw [w64 ((k : Int) + 1) (by omega) (by omega)] at S
            exact ⟨k + 1, os2 ++ [r], p2, c2, S.uu, ⟨hkl2, by rw [List.map_append, hos2, nthG_take hkl2, List.map_append, List.append_assoc]; simp [hr, hr0, gBox, hkT]⟩, S.sub _ _, by omega⟩
          · refine c_exit ?_; (iterate 2 (refine xte ?_)); refine xbe ?_; refine xtn ?_; refine c_seq ?_
            rw [List.take_of_length_le (by simp at h16; omega)] at hos2
            have hos2l : os2.length ≤ 20 := by have := congrArg List.length hos2; simp at this; omega
            have hgood : Good (listT (os2.map LTerm.t)) := by
              rw [hos2]
              refine (listT_good _ (fun t ht => ?_) (by simp; omega)).1
              rcases List.mem_append.1 ht with ht | ht
              · obtain ⟨n, hn, rfl⟩ := List.mem_map.1 ht
                exact uBox_ok hs (huU n hn)
              · obtain ⟨g, hgm, rfl⟩ := List.mem_map.1 ht
                obtain ⟨kk, hkm, hkf⟩ := hfind g hgm (hO.grU g hgm).1 (hO.grU g hgm).2
                exact gBox_ok hs (by rw [keyT, hkf]; exact hgk kk hkm)
            replace S := S.ofBoth
            have hall := S.wd.facts (AllI os2) (by simp)
            replace S := S.rowToGl (e := 24) (sz := 5) (n := os2.length) (c := d') q' os2 hall
            refine c_region ?_; refine sq S ?_; clear S; intro a S
            refine sr S (list_c os2 q' d' _ w (by omega) (foots_lt S) ((S.gl q' (xs := os2)).imp fun _ h => gl_ls h)) ?_; clear S; rintro _ a w ⟨r, rfl, hr, hrf⟩ S
            replace S := S.add hrf
            refine sa S ?_; clear S; intro b18 a w S
            refine sw S ?_; clear S; intro a w S; refine wl_nil ?_; refine xtn ?_; (iterate 2 (refine c_seq ?_)); refine c_region ?_; refine sq S ?_; clear S; intro a S; refine sc S ?_; clear S; intro a w S
            rw [hr, good_check.2 hgood] at S
            refine sq S ?_; clear S; intro a S
            rw [show (!decide ((0 : Int) = 0)) = false from rfl] at S
            refine wl_nil ?_; refine xtn ?_; refine c_condF S ?_; refine c_skip ?_; refine xtn ?_; refine c_seq ?_; refine c_region ?_; refine sq S ?_; clear S; intro a S; refine sw S ?_; clear S; intro a w S; refine sq S ?_; clear S; intro a S; refine wl_nil ?_; refine xtn ?_; refine c_ret ?_
            have hlat := S.laterT (M := M) r
            refine end2 S (fun _ => .inr ⟨hP, us, r, hperm, ?_, rfl, by rw [hr, hos2]; rfl, by rw [hr]; exact hgood, hlat⟩)
            have hnd : us.Nodup := hperm.nodup_iff.2 (List.nodup_cons.2 ⟨hO.rdO, hO.rd.imp fun h => by omega⟩)
            exact (List.Pairwise.and hsort hnd).imp fun ⟨h1, h2⟩ => by omega
theorem pair_shape {x : LTerm} {a b : Term} (h : x.t = .pair a b) : x.kind = 4 ∧ x.kids.length = 2 ∧ (nthL x.kids 0).t = a ∧ (nthL x.kids 1).t = b := by
  rw [x.t_eq] at h
  simp only [Term.pair, Term.mk.injEq] at h
  obtain ⟨h1, -, -, -, h5⟩ := h
  have hl : x.kids.length = 2 := by have := congrArg List.length h5; simpa using this
  obtain ⟨u, v, huv⟩ : ∃ u v, x.kids = [u, v] := by
    match h : x.kids, hl with
    | [u, v], _ => exact ⟨u, v, rfl⟩
  rw [huv] at h5
  simp only [List.map_cons, List.map_nil, List.cons.injEq, and_true] at h5
  refine ⟨h1, hl, ?_, ?_⟩
  · rw [huv]; exact h5.1
  · rw [huv]; exact h5.2
theorem text_shape {x : LTerm} {s : List UInt8} (h : x.t = textT s) : x.kind = 1 ∧ x.text = s := by
  rw [x.t_eq] at h
  simp only [textT, Term.mk.injEq] at h
  exact ⟨h.1, h.2.2.2.1⟩
structure LBox where
  user : Int
  group : Int
  term : LTerm
instance encBox : Enc LBox := ⟨7, fun b => .int .i64 b.user :: .int .i64 b.group :: b.term.cells, fun _ => rfl, fun x u hu => by
  rcases List.mem_cons.1 hu with rfl | hu
  · rfl
  · rcases List.mem_cons.1 hu with rfl | hu
    · rfl
    · exact encT.one x.term u hu⟩
instance layBox : Lay LBox := { encBox with
  dflt := ⟨0, 0, zeroL⟩
  inn := fun w b => LtIn w b.term
  mono := fun _w _w' x h hx => LtIn.mono h x.term hx }
instance : SzE LBox 7 := ⟨rfl, by decide⟩
instance {b : LBox} : CellsOf b [.int .i64 b.user, .int .i64 b.group, .int .i64 b.term.kind, .int .i64 b.term.user, .int .i64 b.term.num, str b.term.text, .slice b.term.p b.term.kids.length b.term.cap] := ⟨rfl⟩
abbrev vBox (b : LBox) : Value := .agg ⟨[.int .i64 b.user, .int .i64 b.group, .int .i64 b.term.kind, .int .i64 b.term.user, .int .i64 b.term.num, str b.term.text, .slice b.term.p b.term.kids.length b.term.cap]⟩
def IsBox (t : Term) (n g : Int) : Prop := (1 ≤ n ∧ n ≤ 6 ∧ g = 0 ∧ ∃ s, t = uBox s n) ∨ (1 ≤ g ∧ g ≤ 3 ∧ n = 0 ∧ ∃ s kt, t = gBox s kt g)
theorem rowS_inj {s s' : UInt8} {a b : Int} (ha : 0 ≤ a ∧ a ≤ 9) (hb : 0 ≤ b ∧ b ≤ 9) : rowS [s] a = rowS [s'] b ↔ s = s' ∧ a = b := by
  constructor
  · intro h
    simp only [rowS, List.cons_append, List.nil_append, List.cons.injEq, and_true] at h
    exact ⟨h.1, by have := u8_inj (a := 48 + a) (b := 48 + b) (by omega) (by omega) h.2; omega⟩
  · rintro ⟨rfl, rfl⟩; rfl
def bxV (b : Nat) : Value := .func (.func 133) #[] ⟨[.pointer (some ⟨b, 0, none⟩)]⟩
theorem boxes_f (p : Option Addr) (n c : Nat) (w0 : World) : Ret Tryz.prog 112 [.slice p n c] w0 (fun _ => False) fun v w' => ∃ b, v = bxV b ∧ w0.heap.size ≤ b ∧ BoxF b 22 [.slice p n c] w' := by
  refine enter Tryz.func112 rfl rfl (Wd.start w0) (fun a S => ?_)
  simp only [Tryz.ntmps112, List.length_cons, List.length_nil, Nat.reduceAdd, Nat.reduceSub, List.replicate_succ, List.replicate_zero, List.cons_append, List.nil_append] at S
  refine c_seq ?_; refine c_region ?_
  refine sa S ?_; clear S; intro b1 a w S
  refine sq S ?_; clear S; intro a S; refine wl_nil ?_; refine xtn ?_; refine c_seq ?_; refine c_region ?_; (iterate 2 (refine sq S ?_; clear S; intro a S)); refine wl_nil ?_; refine xtn ?_; refine c_ret ?_
  have h1 := S.boxF b1
  have n1 := S.boxNew b1
  refine end1 S (fun _ => ?_)
  exact ⟨b1, rfl, n1.elim (fun h => h.elim) id, h1⟩
structure Boxes (xs : List LTerm) (bs : List LBox) : Prop where
  len : bs.length = xs.length
  box : ∀ i, i < xs.length → IsBox (nthL xs i).t (nthG bs i).user (nthG bs i).group
  term : ∀ i, i < xs.length → (nthG bs i).term = nthL (nthL xs i).kids 1
def placeF (b : LBox) : Int := if 0 < b.user then b.user else 6 + b.group
theorem place_c (b : LBox) (hg : 0 ≤ b.group ∧ b.group ≤ 1000) (w0 : World) : Ret Tryz.prog 113 [vBox b] w0 (fun _ => False) fun v _ => v = .int .i64 (placeF b) := by
  refine enter Tryz.func113 rfl rfl (Wd.start w0) (fun a S => ?_)
  simp only [Tryz.ntmps113, List.length_cons, List.length_nil, Nat.reduceAdd, Nat.reduceSub, List.replicate_succ, List.replicate_zero, List.cons_append, List.nil_append] at S
  refine c_seq ?_; refine c_region ?_
  refine sa S ?_; clear S; intro b1 a w S
  refine sq S ?_; clear S; intro a S; refine wl_nil ?_; refine xtn ?_; (iterate 2 (refine c_seq ?_)); refine c_region ?_; (iterate 3 (refine sq S ?_; clear S; intro a S)); refine wl_nil ?_; refine xtn ?_
  refine c_cond S (fun h1 => ?_) (fun h1 => ?_)
  · refine c_seq ?_; refine c_region ?_; (iterate 3 (refine sq S ?_; clear S; intro a S)); refine wl_nil ?_; refine xtn ?_; refine c_ret ?_; refine xtr ?_
    refine end1 S (fun _ => ?_)
    rw [placeF, if_pos (by simpa using h1)]
  · refine c_skip ?_; refine xtn ?_; refine c_seq ?_; refine c_region ?_; (iterate 3 (refine sq S ?_; clear S; intro a S))
    rw [w64 _ (by omega) (by omega)] at S
    refine sq S ?_; clear S; intro a S; refine wl_nil ?_; refine xtn ?_; refine c_ret ?_
    refine end1 S (fun _ => ?_)
    rw [placeF, if_neg (by simpa using h1)]
class GrpOk (b : LBox) : Prop where
  lo : 0 ≤ b.group
  hi : b.group ≤ 1000
instance {b : LBox} {bs fs} [h : GrpOk b] : CallV Tryz.prog 113 [.agg ⟨[.int .i64 b.user, .int .i64 b.group, .int .i64 b.term.kind, .int .i64 b.term.user, .int .i64 b.term.num, str b.term.text, .slice b.term.p b.term.kids.length b.term.cap]⟩] bs fs (.int .i64 (placeF b)) := ⟨fun w _ => place_c b ⟨h.lo, h.hi⟩ w⟩
structure SBox where
  user : Int
  group : Int
  term : Term
def SBox.t (b : SBox) : Term := if 0 < b.user then rowT (rowS [117] b.user) b.term else rowT (rowS [103] b.group) b.term
def SBox.place (b : SBox) : Int := if 0 < b.user then b.user else 6 + b.group
def SBox.ok (b : SBox) : Prop := (1 ≤ b.user ∧ b.user ≤ 6 ∧ b.group = 0 ∧ ∃ s, b.term = sealT b.user s) ∨ (b.user = 0 ∧ 1 ≤ b.group ∧ b.group ≤ 3 ∧ ∃ k s, b.term = lockT k s)
def LBox.s (b : LBox) : SBox := ⟨b.user, b.group, b.term.t⟩
theorem place_s (b : LBox) : b.s.place = placeF b := rfl
theorem SBox.isBox {b : SBox} (h : b.ok) : IsBox b.t b.user b.group := by
  rcases h with ⟨h1, h2, h3, s, h4⟩ | ⟨h1, h2, h3, k, s, h4⟩
  · exact .inl ⟨h1, h2, h3, s, by rw [SBox.t, if_pos (by omega), h4]; rfl⟩
  · refine .inr ⟨h2, h3, h1, s, fun _ => k, by rw [SBox.t, if_neg (by omega), h4]; rfl⟩
theorem kid_in {w : World} {x : LTerm} (h : LtIn w x) {y : LTerm} (hy : y ∈ x.kids) : LtIn w y := by
  have h1 : Stable (fun _ => False) w (LtF x) := fun w' hw' => LtIn.mono (fun ad v hc => cell_agree hw' hc) x h
  exact (kid_st h1 hy).now
theorem goodP {k u n : Int} {s : List UInt8} {ks : List Term} (h : Good (.mk k u n s ks)) : plainF k u n s ks.length = true := by
  have hw := good_walk.1 h
  rw [walkF] at hw
  cases hp : plainF k u n s ks.length with
  | true => rfl
  | false => simp [hp] at hw
theorem good_pr {x : LTerm} (h : Good x.t) (hk : x.kind = 4) : x.kids.length = 2 ∧ x.t = .pair (nthL x.kids 0).t (nthL x.kids 1).t := by
  have h' := h
  rw [x.t_eq] at h
  have hp := plain_shape (goodP h)
  have hl : x.kids.length = 2 := by
    rcases hp with q | q | q | q | q | q | q
    all_goals first | (obtain ⟨-, -, -, -, q⟩ := q; simpa using q) | omega
  refine ⟨hl, ?_⟩
  obtain ⟨u, v, huv⟩ : ∃ u v, x.kids = [u, v] := by
    match h : x.kids, hl with
    | [u, v], _ => exact ⟨u, v, rfl⟩
  have hz : x.user = 0 ∧ x.num = 0 ∧ x.text = [] := by
    rcases hp with q | q | q | q | q | q | q
    all_goals first | exact ⟨q.2.1, q.2.2.1, q.2.2.2.1⟩ | omega
  have e0 : nthL x.kids 0 = u := by rw [huv]; rfl
  have e1 : nthL x.kids 1 = v := by rw [huv]; rfl
  rw [e0, e1, x.t_eq, hk, hz.1, hz.2.1, hz.2.2, huv]; rfl
theorem listT_kind {x : LTerm} (hk : x.kind ≠ 4) (l : List Term) : x.t = listT l ↔ l = [] ∧ x.t = textT [] := by
  constructor
  · intro h
    cases l with
    | nil => exact ⟨rfl, h⟩
    | cons a l => rw [x.t_eq] at h; simp only [listT, Term.pair, Term.mk.injEq] at h; exact absurd h.1 hk
  · rintro ⟨rfl, h⟩; exact h
theorem unlist2_c (t : LTerm) (M : Nat → Prop) (w0 : World) (hM : ∀ k, M k → k < w0.heap.size) (hf : Stable M w0 (LtF t)) :
    Ret Tryz.prog 56 [vL t] w0 (fun _ => False) fun v w' => ∃ (p : Option Addr) (c : Nat) (os : List LTerm) (b : Bool), v = .tuple ⟨[.slice p os.length c, .bool b]⟩ ∧ Stable M w' (LsF p 0 os) ∧ os.length ≤ 1200 ∧ (b = true → Good t.t ∧ t.t = listT (os.map LTerm.t)) ∧ (b = false → os = [] ∧ ∀ l, t.t = listT l → ¬ Good t.t) := by
  refine enter Tryz.func56 rfl rfl (Wd.beginM (M := M) (fs := [LtF t]) hM (by simpa using hf)) (fun a S => ?_)
  simp only [Tryz.ntmps56, List.length_cons, List.length_nil, Nat.reduceAdd, Nat.reduceSub, List.replicate_succ, List.replicate_zero, List.cons_append, List.nil_append] at S
  refine c_seq ?_; refine c_region ?_
  refine sa S ?_; clear S; intro b1 a w S
  (iterate 2 (refine sq S ?_; clear S; intro a S)); refine wl_nil ?_; refine xtn ?_; (iterate 2 (refine c_seq ?_)); refine c_region ?_; refine sq S ?_; clear S; intro a S; refine sc S ?_; clear S; intro a w S; refine sq S ?_; clear S; intro a S; refine wl_nil ?_; refine xtn ?_
  refine c_cond S (fun h1 => ?_) (fun h1 => ?_)
  · refine c_seq ?_; refine c_region ?_; (iterate 2 (refine sq S ?_; clear S; intro a S)); refine wl_nil ?_; refine xtn ?_; refine c_ret ?_; refine xtr ?_
    have hb : ¬ Good t.t := fun h => by have : sizeF t.t = 0 := by simpa using h1
                                        exact h this
    refine end2 S (fun _ => ?_)
    exact ⟨none, 0, [], false, rfl, fun w' _ => by simp [LsF, LsIn], by simp, nofun, fun _ => ⟨rfl, fun _ _ => hb⟩⟩
  · refine c_skip ?_; refine xtn ?_; refine c_seq ?_; refine c_region ?_; refine sq S ?_; clear S; intro a S; refine wl_nil ?_; refine xtn ?_; refine c_seq ?_; refine c_block ?_
    have hg : Good t.t := by have : ¬ sizeF t.t = 0 := by simpa using h1
                             exact this
    replace S := (S.addNil 24 5)
    refine c_fore4 S (fun (x : LTerm) (os : List LTerm) (p' : Option Addr) (c' : Nat) uu => [(4, .slice p' os.length c'), (3, uu 8), (0, uu 9), (0, uu 10), (0, uu 11), (0, uu 12), (0, uu 13), (0, uu 14), (0, uu 15), (0, uu 16), (0, uu 17), (0, uu 18), (0, uu 19), (0, uu 20), (0, uu 21)]) (fun (x : LTerm) (os : List LTerm) (p' : Option Addr) (c' : Nat) => [Wk.row 24 5 p' os.length c' (encL os), Wk.box b1 24 x.cells, ext M]) (fun (x : LTerm) (os : List LTerm) (p' : Option Addr) (c' : Nat) => [AllI os, LtF x]) (fun (x : LTerm) (os : List LTerm) (p' : Option Addr) (c' : Nat) => Good x.t ∧ os.length + cnt x.t ≤ 1200 ∧ ∀ l, t.t = listT l ↔ ∃ l', l = os.map LTerm.t ++ l' ∧ x.t = listT l') (fun (x : LTerm) (os : List LTerm) (p' : Option Addr) (c' : Nat) => cnt x.t) (t) ([]) (none) (0) ?_ S.uu ?_ ?_
    · exact ⟨hg, by simpa using good_le hg, fun l => ⟨fun h => ⟨l, rfl, h⟩, fun ⟨l', h1, h2⟩ => by rw [h1]; exact h2⟩⟩
    · exact S.add (Φ := AllI (α := LTerm) []) AllI.nil
    · clear S; rintro x os p' c' uu a w ⟨hgx, hsz, hrel⟩ S
      (iterate 2 (refine c_seq ?_)); refine c_region ?_; (iterate 3 (refine sq S ?_; clear S; intro a S)); refine wl_nil ?_; refine xtn ?_
      refine c_cond S (fun h4 => ?_) (fun h4 => ?_)
      · refine c_skip ?_; refine xtn ?_; refine c_block ?_; refine c_seq ?_
        have hkind : x.kind = 4 := by simpa using h4
        obtain ⟨hl2, hpr⟩ := good_pr hgx hkind
        have hK0 : KLt 0 x.kids.length := ⟨by omega⟩
        have hK1 : KLt 1 x.kids.length := ⟨by omega⟩
        have hc : cnt x.t = 1 + (cnt (nthL x.kids 0).t + cnt (nthL x.kids 1).t) := by rw [hpr]; simp [Term.pair, cnt, cntL]
        have hcp := cnt_pos (nthL x.kids 0).t
        refine c_region ?_; (iterate 5 (refine sq S ?_; clear S; intro a S))
        refine sn S ?_; clear S; intro b16 a w S
        refine sap S (by simp [maxLen]; omega) (by omega) ?_; clear S; rintro p5 c5 a w - S
        rw [show encL os ++ (nthL x.kids 0).cells = encL (os ++ [nthL x.kids 0]) from by rw [encL_append, encT_cells], show os.length + 1 = (os ++ [nthL x.kids 0]).length from by simp] at S
        refine sq S ?_; clear S; intro a S; refine wl_nil ?_; refine xtn ?_; refine c_region ?_; (iterate 4 (refine sq S ?_; clear S; intro a S)); refine sw S ?_; clear S; intro a w S; refine wl_nil ?_; refine xbn ?_; refine xtn ?_
        have h1 := S.wd.facts (AllI os) (by simp)
        have h2 := S.t (nthL x.kids 0)
        have h3 := S.t (nthL x.kids 1)
        replace S := (S.add (Φ := LtF (nthL x.kids 1)) h3).add (AllI.snoc h1 h2)
        have hg1 : Good (nthL x.kids 1).t := by rw [hpr] at hgx; exact good_kid hgx (by simp)
        refine ⟨nthL x.kids 1, os ++ [nthL x.kids 0], p5, c5, S.uu, ⟨hg1, by simp only [List.length_append, List.length_singleton]; omega, fun l => ?_⟩, S.sub _ _, by omega⟩
        rw [hrel l]
        constructor
        · rintro ⟨l', e1, e2⟩
          rw [hpr] at e2
          cases l' with
          | nil => simp [listT, Term.pair, textT] at e2
          | cons a l' =>
            simp only [listT, Term.pair, Term.mk.injEq, List.cons.injEq, and_true, true_and] at e2
            exact ⟨l', by rw [e1, List.map_append, List.append_assoc, ← e2.1]; rfl, e2.2⟩
        · rintro ⟨l', e1, e2⟩
          exact ⟨(nthL x.kids 0).t :: l', by rw [e1, List.map_append, List.append_assoc]; rfl, by rw [hpr, e2]; rfl⟩
      · refine c_exit ?_; (iterate 2 (refine xte ?_)); refine xbe ?_; refine xtn ?_; (iterate 2 (refine c_seq ?_))
        have hkind : x.kind ≠ 4 := by simpa using h4
        refine c_drawD [(0, true), (1, false), (2, false), (3, true)] [] S ?_; clear S; intro w S
        refine dq S ?_; clear S; intro a S; refine dl ?_; refine sc S ?_; clear S; intro a w S; refine de S ?_; refine dl ?_; refine sc S ?_; clear S; intro a w S; refine de S ?_; refine dq S ?_; clear S; intro a S; refine dn ?_; refine xtn ?_
        refine c_cond S (fun h7 => ?_) (fun h7 => ?_)
        · refine c_seq ?_; refine c_region ?_; (iterate 2 (refine sq S ?_; clear S; intro a S)); refine wl_nil ?_; refine xtn ?_; refine c_ret ?_; refine xtr ?_
          have hne : x.t ≠ textT [] := fun e => by
            have : sameF x.t (textL []).t = true := (sameF_iff _ _).2 (by rw [e]; rfl)
            simp [this] at h7
          refine end2 S (fun _ => ?_)
          refine ⟨none, 0, [], false, rfl, fun w' _ => by simp [LsF, LsIn], by simp, nofun, fun _ => ⟨rfl, fun l h => ?_⟩⟩
          obtain ⟨l', -, e⟩ := (hrel l).1 h
          exact absurd ((listT_kind hkind l').1 e).2 hne
        · refine c_skip ?_; refine xtn ?_; refine c_seq ?_; refine c_region ?_; (iterate 3 (refine sq S ?_; clear S; intro a S)); refine wl_nil ?_; refine xtn ?_; refine c_ret ?_
          have hxe : x.t = textT [] := by
            have : sameF x.t (textL []).t = true := by simpa using h7
            exact (sameF_iff _ _).1 this
          have hrow := S.row p' os.length
          have hnew := S.rowNew p' os.length
          have hall := S.laterFact (Φ := AllI os) (by simp)
          refine end2 S (fun _ => ?_)
          refine ⟨p', c', os, true, rfl, ?_, by omega, fun _ => ⟨hg, (hrel _).2 ⟨[], by simp, by rw [hxe]; rfl⟩⟩, nofun⟩
          exact (gl_own hrow hall (fun ad h hm => (hnew ad h).elim (fun h => h.elim) (fun h2 => by have := hM _ hm; omega))).imp fun _ h => gl_ls h
theorem shape_of {y : LTerm} (h : Good y.t) : plainF y.kind y.user y.num y.text y.kids.length = true := by
  rw [y.t_eq] at h
  have := goodP h
  rwa [List.length_map] at this
theorem good1 {y : LTerm} (h : Good y.t) (hk : y.kind = 1) : y.t = textT y.text := by
  have hp := plain_shape (shape_of h)
  have hz : y.kids = [] := List.length_eq_zero_iff.1 (by omega)
  rw [y.t_eq, hk, show y.user = 0 from by omega, show y.num = 0 from by omega, hz]; rfl
theorem good7 {y : LTerm} (h : Good y.t) (hk : y.kind = 7) : ∃ s, y.t = sealT y.user s := by
  have hp := plain_shape (shape_of h)
  have hl : y.kids.length = 1 := by omega
  obtain ⟨a, ha⟩ := List.length_eq_one_iff.1 hl
  refine ⟨a.t, ?_⟩
  have ht : y.text = [] := by
    rcases hp with h | h | h | h | h | h | h <;> simp_all
  rw [y.t_eq, hk, show y.num = 0 from by omega, ht, ha]; rfl
theorem good6 {y : LTerm} (h : Good y.t) (hk : y.kind = 6) : ∃ k s, y.t = lockT k s := by
  have hp := plain_shape (shape_of h)
  have hl : y.kids.length = 2 := by omega
  obtain ⟨a, b, ha⟩ : ∃ a b, y.kids = [a, b] := by
    match h : y.kids, hl with
    | [a, b], _ => exact ⟨a, b, rfl⟩
  refine ⟨a.t, b.t, ?_⟩
  have ht : y.text = [] := by
    rcases hp with h | h | h | h | h | h | h <;> simp_all
  rw [y.t_eq, hk, show y.user = 0 from by omega, show y.num = 0 from by omega, ht, ha]; rfl
theorem isBox_pair {x : LTerm} {n g : Int} (h : IsBox x.t n g) : x.kind = 4 ∧ x.kids.length = 2 ∧ (nthL x.kids 0).kind = 1 := by
  rcases h with ⟨-, -, -, s, h⟩ | ⟨-, -, -, s, kt, h⟩
  · obtain ⟨h1, h2, h3, _⟩ := pair_shape (a := textT (rowS [117] n)) h
    exact ⟨h1, h2, (text_shape h3).1⟩
  · obtain ⟨h1, h2, h3, _⟩ := pair_shape (a := textT (rowS [103] g)) h
    exact ⟨h1, h2, (text_shape h3).1⟩
theorem isBox_iff {x : LTerm} (hx : Good x.t) (h4 : x.kind = 4) (h1 : (nthL x.kids 0).kind = 1) {n g : Int} : IsBox x.t n g ↔
    (1 ≤ n ∧ n ≤ 6 ∧ g = 0 ∧ (nthL x.kids 0).text = rowS [117] n ∧ (nthL x.kids 1).kind = 7 ∧ (nthL x.kids 1).user = n) ∨ (1 ≤ g ∧ g ≤ 3 ∧ n = 0 ∧ (nthL x.kids 0).text = rowS [103] g ∧ (nthL x.kids 1).kind = 6) := by
  obtain ⟨hl, hp⟩ := good_pr hx h4
  have hg0 : Good (nthL x.kids 0).t := by rw [x.t_eq] at hx; exact good_kid hx (List.mem_map.2 ⟨_, nth_mem (by omega), rfl⟩)
  have hg1 : Good (nthL x.kids 1).t := by rw [x.t_eq] at hx; exact good_kid hx (List.mem_map.2 ⟨_, nth_mem (by omega), rfl⟩)
  have e0 := good1 hg0 h1
  constructor
  · rintro (⟨a1, a2, a3, s, h⟩ | ⟨a1, a2, a3, s, kt, h⟩)
    · obtain ⟨-, -, q1, q2⟩ := pair_shape (a := textT (rowS [117] n)) h
      refine .inl ⟨a1, a2, a3, (text_shape q1).2, ?_⟩
      rw [(nthL x.kids 1).t_eq, sealT] at q2
      injection q2 with q2 q3
      exact ⟨q2, q3⟩
    · obtain ⟨-, -, q1, q2⟩ := pair_shape (a := textT (rowS [103] g)) h
      refine .inr ⟨a1, a2, a3, (text_shape q1).2, ?_⟩
      rw [(nthL x.kids 1).t_eq, lockT] at q2
      injection q2 with q2 q3
  · rintro (⟨a1, a2, a3, b1, b2, b3⟩ | ⟨a1, a2, a3, b1, b2⟩)
    · obtain ⟨s, hs⟩ := good7 hg1 b2
      exact .inl ⟨a1, a2, a3, s, by rw [hp, e0, b1, hs, b3]; rfl⟩
    · obtain ⟨k, s, hs⟩ := good6 hg1 b2
      exact .inr ⟨a1, a2, a3, s, fun _ => k, by rw [hp, e0, b1, hs]; rfl⟩
def BoxOk (x : LTerm) (b : LBox) (ok : Bool) : Prop := (ok = true → IsBox x.t b.user b.group ∧ b.term = nthL x.kids 1) ∧ (ok = false → ∀ n g, ¬ IsBox x.t n g)
theorem cofG_c (x : LTerm) (hx : Good x.t) (w0 : World) (hf : Stable (fun _ => False) w0 (LtF x)) : Ret Tryz.prog 134 [vL x] w0 (fun _ => False) fun v _ => ∃ (b : LBox) (ok : Bool), v = .tuple ⟨[vBox b, .bool ok]⟩ ∧ GrpOk b ∧ BoxOk x b ok := by
  have hu1 : LeC ([117] : List UInt8).length 1000 := ⟨by decide⟩
  have hg1 : LeC ([103] : List UInt8).length 1000 := ⟨by decide⟩
  refine enter Tryz.func134 rfl rfl (Wd.begin (fs := [LtF x]) (by simpa using hf)) (fun a S => ?_)
  simp only [Tryz.ntmps134, List.length_cons, List.length_nil, Nat.reduceAdd, Nat.reduceSub, List.replicate_succ, List.replicate_zero, List.cons_append, List.nil_append] at S
  refine c_seq ?_; refine c_region ?_
  refine sa S ?_; clear S; intro b1 a w S
  refine sa S ?_; clear S; intro b2 a w S
  refine sq S ?_; clear S; intro a S; refine wl_nil ?_; refine xtn ?_; refine c_seq ?_
  refine c_mrgf1 S (fun (m1 : Bool) uu => [(8, uu 8), (0, uu 9), (0, uu 10), (0, uu 11), (0, uu 12), (0, uu 13), (0, uu 14), (0, uu 15), (0, uu 16), (0, uu 17), (0, .bool m1)]) (fun (m1 : Bool) => [Wk.box b2 124 [.int .i64 0, .int .i64 0, .int .i64 0, .int .i64 0, .int .i64 0, .string ⟨#[]⟩, .slice none 0 0], Wk.box b1 24 x.cells]) (fun (m1 : Bool) => m1 = false ↔ x.kind = 4 ∧ (nthL x.kids 0).kind = 1) ?_ ?_
  · refine c_region ?_; (iterate 4 (refine sq S ?_; clear S; intro a S))
    refine gS S (fun hs S => ?_) (fun hs S => ?_)
    · refine gF' S ?_; clear S; intro a S; (iterate 5 (refine gF' S ?_; clear S; intro a S)); refine sq S ?_; clear S; intro a S; refine wl_nil ?_; refine xtn ?_
      exact ⟨true, S.uu, ⟨nofun, fun h => by simp [h.1] at hs⟩, S.sub _ _⟩
    · refine gT' S ?_; refine sq S ?_; clear S; intro a S; refine gT' S ?_; refine sq S ?_; clear S; intro a S; refine gT' S ?_
      have h4 : x.kind = 4 := by simpa using hs
      have hl2 := (good_pr hx h4).1
      have hK0 : KLt 0 x.kids.length := ⟨by omega⟩
      refine sq S ?_; clear S; intro a S; refine gT' S ?_; refine sq S ?_; clear S; intro a S; refine gT' S ?_; refine sq S ?_; clear S; intro a S; refine gT' S ?_; (iterate 2 (refine sq S ?_; clear S; intro a S)); refine wl_nil ?_; refine xtn ?_
      exact ⟨_, S.uu, by simp [h4], S.sub _ _⟩
  · clear S; rintro m1 uu a w hm1 S
    refine c_cond S (fun h1 => ?_) (fun h1 => ?_)
    · refine c_seq ?_; refine c_region ?_; refine sq S ?_; clear S; intro a S; refine sw S ?_; clear S; intro a w S; refine sq S ?_; clear S; intro a S; refine wl_nil ?_; refine xtn ?_; refine c_ret ?_; refine xtr ?_
      refine end2 S (fun _ => ⟨⟨0, 0, zeroL⟩, false, rfl, ⟨Int.le_refl _, by show (0 : Int) ≤ 1000; omega⟩, nofun, fun _ n g hb => ?_⟩)
      obtain ⟨q1, -, q2⟩ := isBox_pair hb
      rw [hm1.2 ⟨q1, q2⟩] at h1
      cases h1
    · refine c_skip ?_; refine xtn ?_; refine c_seq ?_
      obtain ⟨h4, hk1⟩ := hm1.1 (by simpa using h1)
      have hl2 := (good_pr hx h4).1
      have hK0 : KLt 0 x.kids.length := ⟨by omega⟩
      have hK1 : KLt 1 x.kids.length := ⟨by omega⟩
      have hiff : ∀ n g, _ := fun n g => isBox_iff (n := n) (g := g) hx h4 hk1
      refine c_drawD [(0, true), (1, true), (2, true), (3, true), (4, true), (5, true), (6, true), (7, true), (8, true), (9, false), (10, true), (11, false)] [] S ?_; clear S; intro w S
      (iterate 9 (refine dq S ?_; clear S; intro a S)); refine dl ?_
      refine sa S ?_; clear S; intro b5 a w S
      refine de S ?_; refine dq S ?_; clear S; intro a S; refine dl ?_; refine sw S ?_; clear S; intro a w S; refine de S ?_; refine dn ?_; refine xtn ?_; (iterate 2 (refine c_seq ?_)); refine c_region ?_; refine sq S ?_; clear S; intro a S; refine wl_nil ?_; refine xtn ?_; refine c_block ?_
      refine c_forb1 S (fun (j' : Nat) uu => [(3, uu 3), (2, .int .i64 (j' : Nat)), (22, uu 29), (0, uu 30), (0, uu 31), (0, uu 32), (0, uu 33), (0, uu 34), (0, uu 35), (0, uu 36), (0, uu 37), (0, uu 38), (0, uu 39), (0, uu 40), (0, uu 41), (0, uu 42), (0, uu 43), (0, uu 44), (0, uu 45), (0, uu 46), (0, uu 47), (0, uu 48)]) (fun (j' : Nat) => 1 ≤ j' ∧ j' ≤ 7 ∧ ∀ m : Nat, 1 ≤ m → m < j' → (nthL x.kids 0).text ≠ rowS [117] m) (fun (j' : Nat) => 7 - j') (1) ?_ S.uu ?_ ?_
      · exact ⟨Nat.le_refl _, by omega, fun m h1 h2 => by omega⟩
      · first | exact S | exact S.sub _ _
      · clear S; rintro j' uu a w ⟨hj1, hj7, hrel⟩ S
        (iterate 2 (refine c_seq ?_)); refine c_region ?_; (iterate 2 (refine sq S ?_; clear S; intro a S)); refine wl_nil ?_; refine xtn ?_
        refine c_cond S (fun h5 => ?_) (fun h5 => ?_)
        · refine c_skip ?_; refine xtn ?_; refine c_seq ?_; refine c_block ?_; refine c_seq ?_
          have hj6 : j' ≤ 6 := by simp at h5; omega
          have hD : Dig (j' : Nat) := ⟨by omega, by omega⟩
          refine c_region ?_; (iterate 2 (refine sq S ?_; clear S; intro a S)); refine sc S ?_; clear S; intro a w S; refine sq S ?_; clear S; intro a S; refine wl_nil ?_; refine xtn ?_
          refine c_cond S (fun h7 => ?_) (fun h7 => ?_)
          · refine c_seq ?_
            refine c_drawD [(0, true), (1, true), (2, true), (3, true), (4, true), (5, true), (6, true), (7, true), (8, true), (9, true), (10, true), (11, true), (12, false), (13, true)] [b2] S ?_; clear S; intro w S
            (iterate 7 (refine dq S ?_; clear S; intro a S)); (iterate 4 (refine dqG S ?_; clear S; intro a S)); refine dq S ?_; clear S; intro a S; refine dl ?_; refine sw S ?_; clear S; intro a w S; refine de S ?_; refine dq S ?_; clear S; intro a S; refine dn ?_; refine xtn ?_; refine c_ret ?_; refine xbr ?_; (iterate 2 (refine xtr ?_)); refine xbr ?_; refine xtr ?_
            have h7' : (nthL x.kids 0).text = rowS [117] j' := by simpa using h7
            refine end2 S (fun _ => ?_)
            refine ⟨⟨j', 0, nthL x.kids 1⟩, _, rfl, ⟨Int.le_refl _, by show (0 : Int) ≤ 1000; omega⟩, fun h => ⟨(hiff _ _).2 (.inl ⟨by show (1 : Int) ≤ (j' : Int); omega, by show (j' : Int) ≤ 6; omega, rfl, h7', ?_⟩), rfl⟩, fun h n g hb => ?_⟩
            · simpa using h
            · rcases (hiff _ _).1 hb with ⟨c1, c2, c3, c4, c5, c6⟩ | ⟨c1, c2, c3, c4, c5⟩
              · rw [h7', rowS_inj (by omega) (by omega)] at c4
                rw [c5, c6, c4.2] at h
                simp at h
              · rw [h7', rowS_inj (by omega) (by omega)] at c4
                exact absurd c4.1 (by decide)
          · refine c_skip ?_; refine xbn ?_; refine xtn ?_; refine c_region ?_; (iterate 2 (refine sq S ?_; clear S; intro a S))
            rw [w64 _ (by omega) (by omega), show (j' : Int) + 1 = ((j' + 1 : Nat) : Int) from rfl] at S
            refine sq S ?_; clear S; intro a S; refine wl_nil ?_; refine xtn ?_
            refine ⟨j' + 1, S.uu, ⟨by omega, by omega, fun m h1 h2 => ?_⟩, S.sub _ _, by omega⟩
            rcases Nat.lt_or_ge m j' with h | h
            · exact hrel m h1 h
            · obtain rfl : m = j' := by omega
              simpa using h7
        · refine c_exit ?_; (iterate 2 (refine xte ?_)); refine xbe ?_; refine xtn ?_; (iterate 2 (refine c_seq ?_)); refine c_region ?_; refine sq S ?_; clear S; intro a S; refine wl_nil ?_; refine xtn ?_; refine c_block ?_
          refine c_forb1 S (fun (j : Nat) uu => [(3, uu 3), (3, .int .i64 (j : Nat)), (41, uu 49), (0, uu 50), (0, uu 51), (0, uu 52), (0, uu 53), (0, uu 54), (0, uu 55), (0, uu 56), (0, uu 57), (0, uu 58), (0, uu 59), (0, uu 60), (0, uu 61), (0, uu 62)]) (fun (j : Nat) => 1 ≤ j ∧ j ≤ 4 ∧ ∀ m : Nat, 1 ≤ m → m < j → (nthL x.kids 0).text ≠ rowS [103] m) (fun (j : Nat) => 4 - j) (1) ?_ S.uu ?_ ?_
          · exact ⟨Nat.le_refl _, by omega, fun m h1 h2 => by omega⟩
          · first | exact S | exact S.sub _ _
          · clear S; rintro j uu a w ⟨hj1', hj4, hrel2⟩ S
            (iterate 2 (refine c_seq ?_)); refine c_region ?_; (iterate 2 (refine sq S ?_; clear S; intro a S)); refine wl_nil ?_; refine xtn ?_
            refine c_cond S (fun h10 => ?_) (fun h10 => ?_)
            · refine c_skip ?_; refine xtn ?_; refine c_seq ?_; refine c_block ?_; refine c_seq ?_
              have hj6 : j ≤ 3 := by simp at h10; omega
              have hD : Dig (j : Nat) := ⟨by omega, by omega⟩
              refine c_region ?_; (iterate 2 (refine sq S ?_; clear S; intro a S)); refine sc S ?_; clear S; intro a w S; refine sq S ?_; clear S; intro a S; refine wl_nil ?_; refine xtn ?_
              refine c_cond S (fun h12 => ?_) (fun h12 => ?_)
              · refine c_seq ?_
                refine c_drawD [(0, true), (1, true), (2, true), (3, true), (4, true), (5, true), (6, false), (7, true)] [b2] S ?_; clear S; intro w S
                (iterate 6 (refine dq S ?_; clear S; intro a S)); refine dl ?_; refine sw S ?_; clear S; intro a w S; refine de S ?_; refine dq S ?_; clear S; intro a S; refine dn ?_; refine xtn ?_; refine c_ret ?_; refine xbr ?_; (iterate 2 (refine xtr ?_)); refine xbr ?_; refine xtr ?_
                have h7' : (nthL x.kids 0).text = rowS [103] j := by simpa using h12
                refine end2 S (fun _ => ?_)
                refine ⟨⟨0, j, nthL x.kids 1⟩, _, rfl, ⟨by show (0 : Int) ≤ (j : Int); omega, by show (j : Int) ≤ 1000; omega⟩, fun h => ⟨(hiff _ _).2 (.inr ⟨by show (1 : Int) ≤ (j : Int); omega, by show (j : Int) ≤ 3; omega, rfl, h7', ?_⟩), rfl⟩, fun h n g hb => ?_⟩
                · simpa using h
                · rcases (hiff _ _).1 hb with ⟨c1, c2, c3, c4, c5, c6⟩ | ⟨c1, c2, c3, c4, c5⟩
                  · rw [h7', rowS_inj (by omega) (by omega)] at c4
                    exact absurd c4.1 (by decide)
                  · rw [c5] at h
                    simp at h
              · refine c_skip ?_; refine xbn ?_; refine xtn ?_; refine c_region ?_; (iterate 2 (refine sq S ?_; clear S; intro a S))
                rw [w64 _ (by omega) (by omega), show (j : Int) + 1 = ((j + 1 : Nat) : Int) from rfl] at S
                refine sq S ?_; clear S; intro a S; refine wl_nil ?_; refine xtn ?_
                refine ⟨j + 1, S.uu, ⟨by omega, by omega, fun m h1 h2 => ?_⟩, S.sub _ _, by omega⟩
                rcases Nat.lt_or_ge m j with h | h
                · exact hrel2 m h1 h
                · obtain rfl : m = j := by omega
                  simpa using h12
            · refine c_exit ?_; (iterate 2 (refine xte ?_)); refine xbe ?_; refine xtn ?_; refine c_seq ?_; refine c_region ?_; refine sq S ?_; clear S; intro a S; refine sw S ?_; clear S; intro a w S; refine sq S ?_; clear S; intro a S; refine wl_nil ?_; refine xtn ?_; refine c_ret ?_
              have e5 : j' = 7 := by simp at h5; omega
              have e10 : j = 4 := by simp at h10; omega
              refine end2 S (fun _ => ⟨⟨0, 0, zeroL⟩, false, rfl, ⟨Int.le_refl _, by show (0 : Int) ≤ 1000; omega⟩, nofun, fun _ n g hb => ?_⟩)
              rcases (hiff _ _).1 hb with ⟨c1, c2, c3, c4, c5, c6⟩ | ⟨c1, c2, c3, c4, c5⟩
              · exact hrel n.toNat (by omega) (by omega) (by rw [c4, show ((n.toNat : Nat) : Int) = n from by omega])
              · exact hrel2 g.toNat (by omega) (by omega) (by rw [c4, show ((g.toNat : Nat) : Int) = g from by omega])
def BoxE (x : LTerm) (vs : List Value) : Prop := ∃ (b : LBox) (ok : Bool), vs = [vBox b, .bool ok] ∧ GrpOk b ∧ BoxOk x b ok
theorem boxesG_it (b : Nat) (xs : List LTerm) (hg : ∀ x ∈ xs, Good x.t) (p : Option Addr) (c : Nat) (hl : xs.length ≤ 1000000) (w0 : World) (M : Nat → Prop) (hM : ∀ k, M k → k < w0.heap.size) (f1 : Stable M w0 (BoxF b 22 [.slice p xs.length c])) (f2 : Stable M w0 (LsF p 0 xs)) :
    IterRet Tryz.prog 133 [.pointer (some ⟨b, 0, none⟩)] w0 M (fun (y : LTerm) vs _ _ => BoxE y vs) xs := by
  intro L J Jx hy hJ
  have hF : ∀ Φ ∈ [BoxF b 22 [.slice p xs.length c], LsF p 0 xs], Stable M w0 Φ := by simp; exact ⟨f1, f2⟩
  refine (callsIn_wide (n := 0)).2 ?_
  refine enter Tryz.func133 rfl rfl (Wd.beginM (M := M) (fs := [BoxF b 22 [.slice p xs.length c], LsF p 0 xs]) hM hF) (fun a S => ?_)
  simp only [Tryz.ntmps133, List.length_cons, List.length_nil, Nat.reduceAdd, Nat.reduceSub, List.replicate_succ, List.replicate_zero, List.cons_append, List.nil_append] at S
  refine c_seq ?_; refine c_region ?_; (iterate 3 (refine sq S ?_; clear S; intro a S)); refine wl_nil ?_; refine xtn ?_; refine c_block ?_
  refine c_loop (ι := Nat) (fun k a w => k ≤ xs.length ∧ ∃ N w1, J k w1 ∧ ∃ uu : Nat → Value,  St w1 (fun _ => False) [] a w ((.func (.yield L) #[] #[]) :: (.pointer (some ⟨b, 0, none⟩)) :: uu 2 :: uu 3 :: uu 4 :: (.slice p xs.length c) :: (.int .i64 xs.length) :: (.int .i64 (k : Nat)) :: uu 8 :: uu 9 :: uu 10 :: uu 11 :: uu 12 :: uu 13 :: uu 14 :: uu 15 :: uu 16 :: uu 17 :: uu 18 :: []) [ext N] [BoxF b 22 [.slice p xs.length c], LsF p 0 xs]) (fun k => xs.length - k) 0 ?_ ?_
  · exact ⟨Nat.zero_le _, M, w0, hJ, S.uu, S⟩
  · clear S
    rintro k a w ⟨hk, N, w1, hJk, uu, S⟩
    refine c_seq ?_; refine c_region ?_; refine sq S ?_; clear S; intro a S; refine wl_nil ?_; refine xtn ?_; refine c_seq ?_
    refine c_cond S (fun h1 => ?_) (fun h1 => ?_)
    · refine c_skip ?_; refine xtn ?_; refine c_seq ?_; refine c_block ?_; refine c_seq ?_
      have hkl : k < xs.length := by simp at h1; omega
      have hK : KLt k xs.length := ⟨hkl⟩
      refine c_region ?_; (iterate 2 (refine sq S ?_; clear S; intro a S))
      refine sa S ?_; clear S; intro b4 a w S
      refine sw S ?_; clear S; intro a w S; refine wl_nil ?_; refine xtn ?_; refine c_seq ?_; refine c_region ?_; (iterate 2 (refine sq S ?_; clear S; intro a S))
      refine sr S (cofG_c (nthL xs k) (hg _ (nth_mem hkl)) w (S.t0 _)) ?_; clear S; rintro _ a w ⟨bx, okb, rfl, hgb, hbx⟩ S
      (iterate 2 (refine sq S ?_; clear S; intro a S))
      refine sy S (M := M) (wI := w0) (fs0 := [BoxF b 22 [.slice p xs.length c], LsF p 0 xs]) hF (hy k _ _ w1 w (nth_get hkl) hJk S.wd.agree ⟨bx, okb, rfl, hgb, hbx⟩) ?_; clear S; intro ok N' a w2 hT hX S
      refine sq S ?_; clear S; intro a S; refine wl_nil ?_; refine xtn ?_
      refine c_cond S (fun h3 => ?_) (fun h3 => ?_)
      · refine c_ret ?_; refine xbr ?_; (iterate 2 (refine xtr ?_)); refine xbr ?_
        exact endI S ⟨w2, S.wd.agree, .inr (hX (by simpa using h3))⟩
      · refine c_skip ?_; refine xbn ?_; refine xtn ?_; refine c_region ?_; (iterate 2 (refine sq S ?_; clear S; intro a S)); refine wl_nil ?_; refine xtn ?_
        rw [w64 ((k : Int) + 1) (by omega) (by omega)] at S
        exact ⟨k + 1, ⟨hkl, N', w2, hT (by simpa using h3), S.uu, S⟩, by omega⟩
    · refine c_exit ?_; (iterate 2 (refine xte ?_)); refine xbe ?_
      refine endI S ⟨w1, S.wd.agree, .inl ?_⟩
      have h9 : k = xs.length := by simp at h1; omega
      rw [← h9]; exact hJk
structure LMark where
  key : List UInt8
  ver : Int
instance encMark : Enc LMark := ⟨2, fun m => [str m.key, .int .i64 m.ver], fun _ => rfl, fun x u hu => by simp only [List.mem_cons, List.not_mem_nil, or_false] at hu; rcases hu with rfl | rfl <;> rfl⟩
instance layMark : Lay LMark := { encMark with
  dflt := ⟨[], 0⟩
  inn := fun _ _ => True
  mono := fun _ _ _ _ h => h }
def TabF : World → Prop := fun w => Lib.TabIs Tryz.prog w "internal/strconv.uint64pow10" .u64 Lib.pow10Tab
theorem var_agree {P : Program} {w w' : World} {name : String} {cs : Array Value} (h : w.var? P name = some cs) (hw : Agree (fun _ => False) w w') : w'.var? P name = some cs := by
  unfold World.var? at *
  cases hg : P.globalNamed name with
  | none => rw [hg] at h; cases h
  | some g =>
    rw [hg] at h
    simp only [Option.bind_some] at h ⊢
    cases hb : w.heap[g]? with
    | none => rw [hb] at h; cases h
    | some o => rw [hw.blk (Array.getElem?_eq_some_iff.1 hb).1 (fun h => h), hb]; rw [hb] at h; exact h
theorem TabF.stable {w : World} (h : TabF w) : Stable (fun _ => False) w TabF := fun w' hw' => var_agree h hw'
theorem itoa_c (n : Int) (h0 : -9223372036854775808 ≤ n ∧ n ≤ 9223372036854775807) (w0 : World) (ht : TabF w0) : Ret Tryz.prog 74 [.int .i64 n] w0 (fun _ => False) fun v _ => v = str (Lib.itoa n) := by
  refine Calls.mono (Any.strconv_Itoa Tryz.laysM171 n h0.1 h0.2 w0 ht) ?_
  rintro e w' ⟨rfl, k, os, rfl⟩
  refine ⟨_, rfl, ⟨rfl, rfl, rfl, ?_, fun k' hk _ => ?_⟩, rfl⟩
  · show w0.heap.size ≤ (w0.heap ++ os).size
    simp
  · show (w0.heap ++ os)[k']? = w0.heap[k']?
    rw [Array.getElem?_append_left hk]
class I64 (n : Int) : Prop where
  lo : -9223372036854775808 ≤ n
  hi : n ≤ 9223372036854775807
theorem parse_dec : ∀ (N u : Nat) (r : List UInt8), u ≤ N → u < 1000000000000000000 → Lib.parseUint10 0 (Lib.decDigits u ++ r) = Lib.parseUint10 u r := by
  intro N
  induction N with
  | zero =>
    intro u r hu _
    obtain rfl : u = 0 := by omega
    rw [Lib.decDigits, dif_pos (by omega)]
    show Lib.parseUint10 0 (UInt8.ofNat 48 :: r) = _
    rw [Lib.parseUint10]; rfl
  | succ N ih =>
    intro u r hu hb
    have hd : ∀ d : Nat, d < 10 → (UInt8.ofNat (48 + d)).toNat = 48 + d := fun d hd => by rw [UInt8.toNat_ofNat_of_lt' (by show 48 + d < 256; omega)]
    rw [Lib.decDigits]
    split
    · rename_i h
      show Lib.parseUint10 0 (UInt8.ofNat (48 + u) :: r) = _
      rw [Lib.parseUint10, hd u h, if_pos (by omega), if_neg (by omega), if_neg (by omega)]
      congr 1; omega
    · rename_i h
      rw [List.append_assoc, ih (u / 10) _ (by omega) (by omega)]
      show Lib.parseUint10 (u / 10) (UInt8.ofNat (48 + u % 10) :: r) = _
      rw [Lib.parseUint10, hd (u % 10) (by omega), if_pos (by omega), if_neg (by omega), if_neg (by omega)]
      congr 1; omega
theorem dec_head : ∀ (N u : Nat), u ≤ N → ∃ c r, Lib.decDigits u = c :: r ∧ 48 ≤ c.toNat ∧ c.toNat ≤ 57 := by
  intro N
  induction N with
  | zero =>
    intro u hu
    obtain rfl : u = 0 := by omega
    rw [Lib.decDigits, dif_pos (by omega)]
    exact ⟨_, _, rfl, by decide, by decide⟩
  | succ N ih =>
    intro u hu
    have hd : ∀ d : Nat, d < 10 → (UInt8.ofNat (48 + d)).toNat = 48 + d := fun d hd => by rw [UInt8.toNat_ofNat_of_lt' (by show 48 + d < 256; omega)]
    rw [Lib.decDigits]
    split
    · rename_i h
      exact ⟨_, _, rfl, by rw [hd u h]; omega, by rw [hd u h]; omega⟩
    · rename_i h
      obtain ⟨c, r, h1, h2, h3⟩ := ih (u / 10) (by omega)
      exact ⟨c, r ++ [UInt8.ofNat (48 + u % 10)], by rw [h1]; rfl, h2, h3⟩
theorem atoi_itoa {n : Int} (h : 0 ≤ n ∧ n ≤ 65535) : Lib.atoiAll (Lib.itoa n) = .ok n := by
  have e : Lib.itoa n = Lib.decDigits n.toNat := by rw [Lib.itoa, if_neg (by omega)]
  obtain ⟨c, r, h1, h2, h3⟩ := dec_head _ n.toNat (Nat.le_refl _)
  have hp := parse_dec _ n.toNat [] (Nat.le_refl _) (by omega)
  rw [List.append_nil, Lib.parseUint10] at hp
  have hc : ¬ (c.toNat = 43 ∨ c.toNat = 45) := by omega
  have hm : Lib.parseMag (c :: r) = .ok n.toNat := by rw [Lib.parseMag, if_neg (by simp), ← h1, hp]
  have hc2 : ¬ c.toNat = 45 := by omega
  rw [e, h1]
  have hb : ¬ 9223372036854775808 ≤ n.toNat := by omega
  have hc1 : ¬ c.toNat = 43 := by omega
  simp only [Lib.atoiAll, hc1, hc2, or_self, if_false, hm, not_false_eq_true, true_and, false_and, hb]
  rw [show ((n.toNat : Nat) : Int) = n from by omega]
instance : IfT Tryz.prog 116 := ⟨by kernel_rfl⟩
def VarF (name : String) : World → Prop := fun w => ∃ tp p, w.var? Tryz.prog name = some #[.iface tp p]
theorem atoi_c (s : List UInt8) (hs : s.length ≤ 1000) (w0 : World) (h1 : VarF "strconv.ErrSyntax" w0) (h2 : VarF "strconv.ErrRange" w0) : Ret Tryz.prog 87 [str s] w0 (fun _ => False) fun v _ => ∃ (n : Int) (b : Bool) (te : TypeId) (pe : Value), v = .tuple ⟨[.int .i64 n, errV b te pe]⟩ ∧ (-9223372036854775808 ≤ n ∧ n ≤ 9223372036854775807) ∧ (b = true ↔ ∃ m, Lib.atoiAll s = .ok m) ∧ (∀ m, Lib.atoiAll s = .ok m → n = m) := by
  obtain ⟨tp1, p1, hv1⟩ := h1
  obtain ⟨tp2, p2, hv2⟩ := h2
  have hsz : (⟨s.toArray⟩ : ByteArray).size = s.length := rfl
  rcases h : Lib.atoiAll s with m | _ | _
  · refine Calls.mono (Any.strconv_Atoi_ok Tryz.laysC172 ⟨s.toArray⟩ (by rw [hsz]; omega) m h w0) ?_
    rintro e w' ⟨rfl, hw⟩
    refine ⟨_, rfl, ?_, m, true, 0, .nilIface, rfl, Lib.atoiAll_bounds h, ⟨fun _ => ⟨m, rfl⟩, fun _ => rfl⟩, fun m' e => by injection e⟩
    rcases hw with rfl | ⟨t, rfl⟩
    · exact Agree.refl _ _
    · exact ⟨rfl, rfl, rfl, by rw [Lib.bytesWorld_size]; omega, fun k hk _ => Lib.bytesWorld_at_old _ _ _ k hk⟩
  · refine Calls.mono (Any.strconv_Atoi_syntax_var Tryz.laysC172 ⟨s.toArray⟩ (by rw [hsz]; omega) h tp1 p1 w0 hv1) ?_
    rintro e w' ⟨N, rfl, hN, -, hb⟩
    refine ⟨_, rfl, ?_, 0, false, _, _, rfl, ⟨by omega, by omega⟩, ⟨nofun, fun ⟨m, e⟩ => by cases e⟩, fun m e => by cases e⟩
    exact Agree.ofBelow hb
  · refine Calls.mono (Any.strconv_Atoi_range_var Tryz.laysC172 ⟨s.toArray⟩ (by rw [hsz]; omega) h tp2 p2 w0 hv2) ?_
    rintro e w' ⟨N, rfl, hN, -, hb⟩
    refine ⟨_, rfl, ?_, Lib.atoiSat s, false, _, _, rfl, Lib.atoiSat_bounds s, ⟨nofun, fun ⟨m, e⟩ => by cases e⟩, fun m e => by cases e⟩
    exact Agree.ofBelow hb
theorem VarF.stable {name : String} {w : World} (h : VarF name w) : Stable (fun _ => False) w (VarF name) := fun w' hw' => by
  obtain ⟨tp, p, hv⟩ := h
  exact ⟨tp, p, var_agree hv hw'⟩
def LibF : World → Prop := fun w => TabF w ∧ VarF "strconv.ErrSyntax" w ∧ VarF "strconv.ErrRange" w
theorem LibF.stable {w : World} (h : LibF w) : Stable (fun _ => False) w LibF := fun w' hw' => ⟨h.1.stable w' hw', h.2.1.stable w' hw', h.2.2.stable w' hw'⟩
open Go.ChangeShapes Go.WideShapes Go.ChangeAt Go.RowKit
def laidL {H : Type} : List (String × DataW H) := [("math/bits.deBruijn32tab", Rows.laid_math_bits_deBruijn32tab), ("math/bits.deBruijn64tab", Rows.laid_math_bits_deBruijn64tab), ("internal/strconv.uint64pow10", Rows.laid_internal_strconv_uint64pow10), ("strconv.ErrRange", Rows.laid_strconv_ErrRange), ("strconv.ErrSyntax", Rows.laid_strconv_ErrSyntax)]
abbrev synS : ByteArray := { data := #[105, 110, 118, 97, 108, 105, 100, 32, 115, 121, 110, 116, 97, 120] }
abbrev rngS : ByteArray := { data := #[118, 97, 108, 117, 101, 32, 111, 117, 116, 32, 111, 102, 32, 114, 97, 110, 103, 101] }
noncomputable def low : Nat := (World.holding Tryz.prog default ⟨#[], #[], []⟩).heap.size
def setCells (cs : Array Value) : Obj → Obj
  | .cells _ t frozen => .cells cs t frozen
  | o => o
noncomputable def laidWorld (os : Os) : World :=
  let w0 := World.holding Tryz.prog os ⟨#[.cells #[.string synS] 184, .cells #[.string rngS] 184], #[], []⟩
  { w0 with heap := ((((w0.heap.modify 0 (setCells #[.iface 182 (.pointer (some ⟨low, 0, none⟩))])).modify 1 (setCells #[.iface 182 (.pointer (some ⟨low + 1, 0, none⟩))])).modify 2 (setCells #[.int .u64 1, .int .u64 10, .int .u64 100, .int .u64 1000, .int .u64 10000, .int .u64 100000, .int .u64 1000000, .int .u64 10000000, .int .u64 100000000, .int .u64 1000000000, .int .u64 10000000000, .int .u64 100000000000, .int .u64 1000000000000, .int .u64 10000000000000, .int .u64 100000000000000, .int .u64 1000000000000000, .int .u64 10000000000000000, .int .u64 100000000000000000, .int .u64 1000000000000000000, .int .u64 10000000000000000000])).modify 3 (setCells #[.int .u8 0, .int .u8 1, .int .u8 28, .int .u8 2, .int .u8 29, .int .u8 14, .int .u8 24, .int .u8 3, .int .u8 30, .int .u8 22, .int .u8 20, .int .u8 15, .int .u8 25, .int .u8 17, .int .u8 4, .int .u8 8, .int .u8 31, .int .u8 27, .int .u8 13, .int .u8 23, .int .u8 21, .int .u8 19, .int .u8 16, .int .u8 7, .int .u8 26, .int .u8 12, .int .u8 18, .int .u8 6, .int .u8 11, .int .u8 5, .int .u8 10, .int .u8 9])).modify 4 (setCells #[.int .u8 0, .int .u8 1, .int .u8 56, .int .u8 2, .int .u8 57, .int .u8 49, .int .u8 28, .int .u8 3, .int .u8 61, .int .u8 58, .int .u8 42, .int .u8 50, .int .u8 38, .int .u8 29, .int .u8 17, .int .u8 4, .int .u8 62, .int .u8 47, .int .u8 59, .int .u8 36, .int .u8 45, .int .u8 43, .int .u8 51, .int .u8 22, .int .u8 53, .int .u8 39, .int .u8 33, .int .u8 30, .int .u8 24, .int .u8 18, .int .u8 12, .int .u8 5, .int .u8 63, .int .u8 55, .int .u8 48, .int .u8 27, .int .u8 60, .int .u8 41, .int .u8 37, .int .u8 16, .int .u8 46, .int .u8 35, .int .u8 44, .int .u8 21, .int .u8 52, .int .u8 32, .int .u8 23, .int .u8 11, .int .u8 54, .int .u8 26, .int .u8 40, .int .u8 15, .int .u8 34, .int .u8 20, .int .u8 31, .int .u8 10, .int .u8 25, .int .u8 14, .int .u8 19, .int .u8 9, .int .u8 13, .int .u8 8, .int .u8 7, .int .u8 6]) }
theorem laidWorld_met (os : Os) (args : Array Value) : laidMet Tryz.prog laidL ((laidWorld os).forCall (fun _ _ => 0) ⟨#[], args, []⟩).memory :=
  laidMet_of_run' 8 (by kernel_rfl) (by kernel_rfl)
theorem itoa_len {n : Int} (h : 0 ≤ n ∧ n ≤ 65535) : (Lib.itoa n).length ≤ 64 := Nat.le_trans (Lib.itoa_length_le n (by omega) (by omega)) (by omega)
deriving instance DecidableEq for LMark
section
variable {l : Cx} {bs : List Wk.Item} {fs : List (World → Prop)} {x y : Operand} {m n : LMark} {t' ty : TypeId}
end
end Go.Proofs.YtibkkbknnfehlaaGreatDoor