/- Package perm: Check. -/
import Derived.Test.YtgielmldblopeaaInst
import Derived.Test.YtgielmldblopeaaW5
namespace Go.Proofs.Ytgielmldblopeaa
open Go Go.Wk
set_option synthInstance.maxSize 100000
set_option synthInstance.maxHeartbeats 400000
set_option maxRecDepth 100000

structure LPerm where
  owner : Int
  epoch : Int
  rd : Sl Int
  wr : Sl Int
  gr : Sl Int
instance encPerm : Enc LPerm := ⟨5, fun p => [.int .i64 p.owner, .int .i64 p.epoch, p.rd.v, p.wr.v, p.gr.v], fun _ => rfl, fun x u hu => by simp only [List.mem_cons, List.not_mem_nil, or_false] at hu; rcases hu with rfl | rfl | rfl | rfl | rfl <;> rfl⟩
instance layPerm : Lay LPerm := { encPerm with
  dflt := ⟨0, 0, ⟨none, 0, []⟩, ⟨none, 0, []⟩, ⟨none, 0, []⟩⟩
  inn := fun w p => Lay.inn w p.rd ∧ Lay.inn w p.wr ∧ Lay.inn w p.gr
  mono := fun w w' x h hx => ⟨Lay.mono w w' _ h hx.1, Lay.mono w w' _ h hx.2.1, Lay.mono w w' _ h hx.2.2⟩ }
instance : SzE LPerm 5 := ⟨rfl, by decide⟩
abbrev cPerm (p : LPerm) : List Value := [.int .i64 p.owner, .int .i64 p.epoch, .slice p.rd.p p.rd.xs.length p.rd.cap, .slice p.wr.p p.wr.xs.length p.wr.cap, .slice p.gr.p p.gr.xs.length p.gr.cap]
instance {p : LPerm} : CellsOf p [.int .i64 p.owner, .int .i64 p.epoch, .slice p.rd.p p.rd.xs.length p.rd.cap, .slice p.wr.p p.wr.xs.length p.wr.cap, .slice p.gr.p p.gr.xs.length p.gr.cap] := ⟨rfl⟩
abbrev vPerm (p : LPerm) : Value := .agg ⟨[.int .i64 p.owner, .int .i64 p.epoch, .slice p.rd.p p.rd.xs.length p.rd.cap, .slice p.wr.p p.wr.xs.length p.wr.cap, .slice p.gr.p p.gr.xs.length p.gr.cap]⟩
instance (priority := 850) hasi_prd {fs : List (World → Prop)} {p : LPerm} [h : HasI fs p] : HasI fs p.rd := ⟨fun M w hf => (h.of M w hf).imp fun _ h => h.1⟩
instance (priority := 850) hasi_pwr {fs : List (World → Prop)} {p : LPerm} [h : HasI fs p] : HasI fs p.wr := ⟨fun M w hf => (h.of M w hf).imp fun _ h => h.2.1⟩
instance (priority := 850) hasi_pgr {fs : List (World → Prop)} {p : LPerm} [h : HasI fs p] : HasI fs p.gr := ⟨fun M w hf => (h.of M w hf).imp fun _ h => h.2.2⟩

def okU (u : Int) : Bool := decide (1 ≤ u) && decide (u ≤ 6)
def okG (u : Int) : Bool := decide (1 ≤ u) && decide (u ≤ 3)
theorem puser_c (u : Int) (w0 : World) : Ret Try.prog 66 [.int .i64 u] w0 (fun _ => False) fun v _ => v = .bool (okU u) := by
  refine enter Try.func66 rfl rfl (Wd.start w0) (fun a S => ?_)
  simp only [Try.ntmps66, List.length_cons, List.length_nil, Nat.reduceAdd, Nat.reduceSub, List.replicate_succ, List.replicate_zero, List.cons_append, List.nil_append] at S
  refine c_seq ?_
  refine c_region ?_
  refine sq S ?_; clear S; intro a S
  refine wl_nil ?_
  refine xtn ?_
  refine c_seq ?_
  refine c_region ?_
  iterate 3 (refine sq S ?_; clear S; intro a S)
  iterate 2 (refine gQ S ?_; clear S; intro a S)
  iterate 2 (refine sq S ?_; clear S; intro a S)
  refine wl_nil ?_
  refine xtn ?_
  refine c_ret ?_
  refine end1 S (fun _ => rfl)
instance {u : Int} {bs fs} : CallV Try.prog 66 [.int .i64 u] bs fs (.bool (okU u)) := ⟨fun w _ => puser_c u w⟩
theorem pgroup_c (u : Int) (w0 : World) : Ret Try.prog 68 [.int .i64 u] w0 (fun _ => False) fun v _ => v = .bool (okG u) := by
  refine enter Try.func68 rfl rfl (Wd.start w0) (fun a S => ?_)
  simp only [Try.ntmps68, List.length_cons, List.length_nil, Nat.reduceAdd, Nat.reduceSub, List.replicate_succ, List.replicate_zero, List.cons_append, List.nil_append] at S
  refine c_seq ?_
  refine c_region ?_
  refine sq S ?_; clear S; intro a S
  refine wl_nil ?_
  refine xtn ?_
  refine c_seq ?_
  refine c_region ?_
  iterate 3 (refine sq S ?_; clear S; intro a S)
  iterate 2 (refine gQ S ?_; clear S; intro a S)
  iterate 2 (refine sq S ?_; clear S; intro a S)
  refine wl_nil ?_
  refine xtn ?_
  refine c_ret ?_
  refine end1 S (fun _ => rfl)
instance {u : Int} {bs fs} : CallV Try.prog 68 [.int .i64 u] bs fs (.bool (okG u)) := ⟨fun w _ => pgroup_c u w⟩
/-- rising numbers. -/
def risF (q : Int → Bool) : Option Int → List Int → Bool
  | _, [] => true
  | o, x :: xs => (q x && (match o with | none => true | some y => decide (y < x))) && risF q (some x) xs
theorem risF_cons (q : Int → Bool) (o : Option Int) (x : Int) (xs : List Int) : risF q o (x :: xs) = ((q x && (match o with | none => true | some y => decide (y < x))) && risF q (some x) xs) := rfl
def lastG (xs : List Int) : Nat → Option Int
  | 0 => none
  | j + 1 => some (nthG xs j)
theorem rising_c (F : Nat) [EntF Try.prog F] (ca : List Value) (q : Int → Bool) (xs : List Int) (p : Option Addr) (n c : Nat) (w0 : World) (hn : xs.length = n) (hl : n ≤ 9223372036854775807) (hx : Stable (fun _ => False) w0 (GlF p xs))
    (hF : ∀ x ∈ xs, ∀ w, Agree (fun _ => False) w0 w → Ret Try.prog F (.int .i64 x :: ca) w (fun _ => False) fun v _ => v = .bool (q x)) :
    Ret Try.prog 67 [.slice p n c, .func (.func F) #[] ⟨ca⟩] w0 (fun _ => False) fun v _ => v = .bool (risF q none xs) := by
  subst hn
  refine enter Try.func67 rfl rfl (Wd.begin (fs := [GlF p xs]) (by simpa using hx)) (fun a S => ?_)
  simp only [Try.ntmps67, List.length_cons, List.length_nil, Nat.reduceAdd, Nat.reduceSub, List.replicate_succ, List.replicate_zero, List.cons_append, List.nil_append] at S
  refine c_seq ?_
  refine c_region ?_
  refine sq S ?_; clear S; intro a S
  refine wl_nil ?_
  refine xtn ?_
  iterate 2 (refine c_seq ?_)
  refine c_region ?_
  iterate 3 (refine sq S ?_; clear S; intro a S)
  refine wl_nil ?_
  refine xtn ?_
  refine c_block ?_
  refine c_forb1 S (fun (k : Nat) uu => [(4, uu 4), (0, uu 5), (0, uu 6), (2, .int .i64 (k : Nat)), (0, uu 10), (0, uu 11), (0, uu 12), (0, uu 13), (0, uu 14), (0, uu 15), (0, uu 16), (0, uu 17), (0, uu 18), (0, uu 19), (0, uu 20), (0, uu 21), (0, uu 22), (0, uu 23), (0, uu 24), (0, uu 25), (0, uu 26), (0, uu 27), (0, uu 28), (0, uu 29), (0, uu 30), (0, uu 31)]) (fun (k : Nat) => k ≤ xs.length ∧ risF q (lastG xs k) (xs.drop k) = risF q none xs) (fun (k : Nat) => xs.length - k) (0) ?_ S.uu ?_ ?_
  · exact ⟨Nat.zero_le _, rfl⟩
  · first | exact S | exact S.sub _ _
  · clear S; rintro k uu a w ⟨hk, hrel⟩ S
    refine c_seq ?_
    refine c_region ?_
    refine sq S ?_; clear S; intro a S
    refine wl_nil ?_
    refine xtn ?_
    refine c_seq ?_
    refine c_cond S (fun h2 => ?_) (fun h2 => ?_)
    · refine c_skip ?_
      refine xtn ?_
      refine c_seq ?_
      refine c_block ?_
      refine c_seq ?_
      have hkl : k < xs.length := by simp at h2; omega
      have hK : KLt k xs.length := ⟨hkl⟩
      rw [nthG_drop hkl, risF_cons] at hrel
      refine c_region ?_
      iterate 5 (refine sq S ?_; clear S; intro a S)
      refine wl_nil ?_
      refine xtn ?_
      refine c_seq ?_
      refine c_region ?_
      iterate 2 (refine sq S ?_; clear S; intro a S)
      refine sr S (hF (nthG xs k) (nthG_mem hkl) w S.wd.agree) ?_; clear S; rintro _ a w rfl S
      iterate 2 (refine sq S ?_; clear S; intro a S)
      refine gS S (fun hb1 S => ?_) (fun hb1 S => ?_)
      · refine gF' S ?_; clear S; intro a S
        iterate 2 (refine gF' S ?_; clear S; intro a S)
        iterate 7 (refine gU S ?_; clear S; intro a S)
        refine gF' S ?_; clear S; intro a S
        refine sq S ?_; clear S; intro a S
        refine wl_nil ?_
        refine xtn ?_
        refine c_condT S ?_
        refine c_seq ?_
        refine c_region ?_
        refine sq S ?_; clear S; intro a S
        refine wl_nil ?_
        refine xtn ?_
        refine c_ret ?_
        refine xbr ?_
        iterate 2 (refine xtr ?_)
        refine xbr ?_
        refine xtr ?_
        have e : q (nthG xs k) = false := by simpa using hb1
        refine end1 S (fun _ => ?_)
        rw [← hrel, e]; rfl
      · refine gT' S ?_
        refine sq S ?_; clear S; intro a S
        refine gT' S ?_
        refine sq S ?_; clear S; intro a S
        refine gT' S ?_
        refine sq S ?_; clear S; intro a S
        refine gS S (fun hb2 S => ?_) (fun hb2 S => ?_)
        · refine gT S ?_
          refine sq S ?_; clear S; intro a S
          refine gT S ?_
          refine sq S ?_; clear S; intro a S
          refine gT S ?_
          have hk0 : 0 < k := by simp at hb2; omega
          have hK1 : KLt (k - 1) xs.length := ⟨by omega⟩
          have hlast : lastG xs k = some (nthG xs (k - 1)) := by obtain ⟨j, rfl⟩ : ∃ j, k = j + 1 := ⟨k - 1, by omega⟩; rfl
          refine sq S ?_; clear S; intro a S
          rw [w64 _ (by omega) (by omega), show (k : Int) - 1 = ((k - 1 : Nat) : Int) from by omega] at S
          refine gT S ?_
          refine sq S ?_; clear S; intro a S
          refine gT S ?_
          refine sq S ?_; clear S; intro a S
          refine gT S ?_
          refine sq S ?_; clear S; intro a S
          refine gT S ?_
          refine sq S ?_; clear S; intro a S
          refine gT' S ?_
          iterate 2 (refine sq S ?_; clear S; intro a S)
          refine wl_nil ?_
          refine xtn ?_
          refine c_cond S (fun h4 => ?_) (fun h4 => ?_)
          · refine c_seq ?_
            refine c_region ?_
            refine sq S ?_; clear S; intro a S
            refine wl_nil ?_
            refine xtn ?_
            refine c_ret ?_
            refine xbr ?_
            iterate 2 (refine xtr ?_)
            refine xbr ?_
            refine xtr ?_
            have e : ¬ nthG xs (k - 1) < nthG xs k := by simpa using h4
            refine end1 S (fun _ => ?_)
            rw [← hrel, hlast]; simp [e]
          · refine c_skip ?_
            refine xbn ?_
            refine xtn ?_
            refine c_region ?_
            iterate 2 (refine sq S ?_; clear S; intro a S)
            refine wl_nil ?_
            refine xtn ?_
            have e1 : q (nthG xs k) = true := by simpa using hb1
            have e : nthG xs (k - 1) < nthG xs k := by simpa using h4
            rw [w64 ((k : Int) + 1) (by omega) (by omega)] at S
            exact ⟨k + 1, S.uu, ⟨hkl, by rw [← hrel, hlast]; simp [e, e1, lastG]⟩, S.sub _ _, by omega⟩
        · refine gF S ?_; clear S; intro a S
          iterate 6 (refine gF S ?_; clear S; intro a S)
          refine gT' S ?_
          iterate 2 (refine sq S ?_; clear S; intro a S)
          refine wl_nil ?_
          refine xtn ?_
          refine c_condF S ?_
          refine c_skip ?_
          refine xbn ?_
          refine xtn ?_
          refine c_region ?_
          iterate 2 (refine sq S ?_; clear S; intro a S)
          refine wl_nil ?_
          refine xtn ?_
          have e1 : q (nthG xs k) = true := by simpa using hb1
          have hk0 : k = 0 := by simp at hb2; omega
          rw [w64 ((k : Int) + 1) (by omega) (by omega)] at S
          exact ⟨k + 1, S.uu, ⟨hkl, by rw [← hrel, hk0]; subst hk0; simp [e1, lastG]⟩, S.sub _ _, by omega⟩
    · refine c_exit ?_
      iterate 2 (refine xte ?_)
      refine xbe ?_
      refine xtn ?_
      refine c_seq ?_
      refine c_region ?_
      refine sq S ?_; clear S; intro a S
      refine wl_nil ?_
      refine xtn ?_
      refine c_ret ?_
      rw [List.drop_of_length_le (by simp at h2; omega)] at hrel
      refine end1 S (fun _ => ?_)
      rw [← hrel]; rfl
theorem pcheck1_c (b : Nat) (x : Int) (P0 : LPerm) (w0 : World) (hb : Stable (fun _ => False) w0 (BoxF b 56 (cPerm P0))) : Ret Try.prog 65 [.int .i64 x, .pointer (some ⟨b, 0, none⟩)] w0 (fun _ => False) fun v _ => v = .bool (okU x && decide (x ≠ P0.owner)) := by
  refine enter Try.func65 rfl rfl (Wd.begin (fs := [BoxF b 56 (cPerm P0)]) (by simpa using hb)) (fun a S => ?_)
  simp only [Try.ntmps65, List.length_cons, List.length_nil, Nat.reduceAdd, Nat.reduceSub, List.replicate_succ, List.replicate_zero, List.cons_append, List.nil_append] at S
  refine c_seq ?_
  refine c_region ?_
  refine sq S ?_; clear S; intro a S
  refine wl_nil ?_
  refine xtn ?_
  refine c_seq ?_
  refine c_region ?_
  refine sq S ?_; clear S; intro a S
  refine sc S ?_; clear S; intro a w S
  refine sq S ?_; clear S; intro a S
  iterate 4 (refine gQ S ?_; clear S; intro a S)
  iterate 2 (refine sq S ?_; clear S; intro a S)
  refine wl_nil ?_
  refine xtn ?_
  refine c_ret ?_
  refine end1 S (fun _ => ?_)
  simp
instance {b : Nat} {P0 : LPerm} {p : Option Addr} {n c : Nat} {xs : List Int} {bs fs} [hg : HasG fs p Int layI xs] [hn : LenN xs n] [hk : LeC n 9223372036854775807] [hb : HasBox bs b 56 (cPerm P0)] : CallV Try.prog 67 [.slice p n c, .func (.func 65) #[] ⟨[.pointer (some ⟨b, 0, none⟩)]⟩] bs fs (.bool (risF (fun x => okU x && decide (x ≠ P0.owner)) none xs)) := ⟨fun w m =>
  rising_c 65 [.pointer (some ⟨b, 0, none⟩)] (fun x => okU x && decide (x ≠ P0.owner)) xs p n c w hn.eq hk.le ((hg.of _ _ m.facts).less fun _ _ h => h.elim) fun x _ w' hw' => pcheck1_c b x P0 w' ((BoxF.stable m.box (fun h => h)).later hw')⟩
instance {p : Option Addr} {n c : Nat} {xs : List Int} {bs fs} [hg : HasG fs p Int layI xs] [hn : LenN xs n] [hk : LeC n 9223372036854775807] : CallV Try.prog 67 [.slice p n c, .func (.func 68) #[] #[]] bs fs (.bool (risF okG none xs)) := ⟨fun w m =>
  rising_c 68 [] okG xs p n c w hn.eq hk.le ((hg.of _ _ m.facts).less fun _ _ h => h.elim) fun x _ w' _ => pgroup_c x w'⟩
theorem indexI_c (x : Int) (xs : List Int) (p : Option Addr) (n c : Nat) (w0 : World) (hn : xs.length = n) (hl : n ≤ 9223372036854775807) (hx : Stable (fun _ => False) w0 (GlF p xs)) :
    Ret Try.prog 105 [.slice p n c, .int .i64 x] w0 (fun _ => False) fun v _ => v = .int .i64 (idxG (fun y => decide (x = y)) xs 0) := by
  subst hn
  refine enter Try.func105 rfl rfl (Wd.begin (fs := [GlF p xs]) (by simpa using hx)) (fun a S => ?_)
  simp only [Try.ntmps105, List.length_cons, List.length_nil, Nat.reduceAdd, Nat.reduceSub, List.replicate_succ, List.replicate_zero, List.cons_append, List.nil_append] at S
  refine c_seq ?_
  refine c_region ?_
  refine sq S ?_; clear S; intro a S
  refine wl_nil ?_
  refine xtn ?_
  iterate 2 (refine c_seq ?_)
  refine c_region ?_
  iterate 3 (refine sq S ?_; clear S; intro a S)
  refine wl_nil ?_
  refine xtn ?_
  refine c_block ?_
  refine c_forb1 S (fun (k : Nat) uu => [(4, uu 4), (0, uu 5), (2, .int .i64 (k : Nat)), (0, uu 9), (0, uu 10), (0, uu 11), (0, uu 12), (0, uu 13), (0, uu 14), (0, uu 15), (0, uu 16), (0, uu 17), (0, uu 18)]) (fun (k : Nat) => k ≤ xs.length ∧ idxG (fun y => decide (x = y)) (xs.drop k) k = idxG (fun y => decide (x = y)) xs 0) (fun (k : Nat) => xs.length - k) (0) ?_ S.uu ?_ ?_
  · exact ⟨Nat.zero_le _, rfl⟩
  · first | exact S | exact S.sub _ _
  · clear S; rintro k uu a w ⟨hk, hrel⟩ S
    refine c_seq ?_
    refine c_region ?_
    refine sq S ?_; clear S; intro a S
    refine wl_nil ?_
    refine xtn ?_
    refine c_seq ?_
    refine c_cond S (fun h2 => ?_) (fun h2 => ?_)
    · refine c_skip ?_
      refine xtn ?_
      refine c_seq ?_
      refine c_block ?_
      refine c_seq ?_
      refine c_region ?_
      iterate 2 (refine sq S ?_; clear S; intro a S)
      refine wl_nil ?_
      refine xtn ?_
      refine c_seq ?_
      have hkl : k < xs.length := by simp at h2; omega
      have hK : KLt k xs.length := ⟨hkl⟩
      rw [nthG_drop hkl, idxG] at hrel
      refine c_region ?_
      iterate 6 (refine sq S ?_; clear S; intro a S)
      refine wl_nil ?_
      refine xtn ?_
      refine c_cond S (fun h4 => ?_) (fun h4 => ?_)
      · refine c_seq ?_
        refine c_region ?_
        iterate 2 (refine sq S ?_; clear S; intro a S)
        refine wl_nil ?_
        refine xtn ?_
        refine c_ret ?_
        refine xbr ?_
        iterate 2 (refine xtr ?_)
        refine xbr ?_
        refine xtr ?_
        rw [if_pos h4] at hrel
        refine end1 S (fun _ => ?_)
        rw [hrel]
      · refine c_skip ?_
        refine xbn ?_
        refine xtn ?_
        refine c_region ?_
        iterate 2 (refine sq S ?_; clear S; intro a S)
        refine wl_nil ?_
        refine xtn ?_
        rw [if_neg (by simpa using h4)] at hrel
        rw [w64 ((k : Int) + 1) (by omega) (by omega)] at S
        exact ⟨k + 1, S.uu, ⟨hkl, by rw [← hrel]; rfl⟩, S.sub _ _, by omega⟩
    · refine c_exit ?_
      iterate 2 (refine xte ?_)
      refine xbe ?_
      refine xtn ?_
      refine c_seq ?_
      refine c_region ?_
      refine sq S ?_; clear S; intro a S
      refine wl_nil ?_
      refine xtn ?_
      refine c_ret ?_
      rw [List.drop_of_length_le (by simp at h2; omega)] at hrel
      refine end1 S (fun _ => ?_)
      rw [← hrel]; rfl
theorem containsI_c (x : Int) (xs : List Int) (p : Option Addr) (n c : Nat) (w0 : World) (hn : xs.length = n) (hl : n ≤ 9223372036854775807) (hx : Stable (fun _ => False) w0 (GlF p xs)) :
    Ret Try.prog 71 [.slice p n c, .int .i64 x] w0 (fun _ => False) fun v _ => v = .bool (decide (x ∈ xs)) := by
  refine enter Try.func71 rfl rfl (Wd.begin (fs := [GlF p xs]) (by simpa using hx)) (fun a S => ?_)
  simp only [Try.ntmps71, List.length_cons, List.length_nil, Nat.reduceAdd, Nat.reduceSub, List.replicate_succ, List.replicate_zero, List.cons_append, List.nil_append] at S
  refine c_seq ?_
  refine c_region ?_
  refine sq S ?_; clear S; intro a S
  refine wl_nil ?_
  refine xtn ?_
  refine c_seq ?_
  refine c_region ?_
  iterate 2 (refine sq S ?_; clear S; intro a S)
  refine sr S (indexI_c x xs p n c _ hn hl (S.gl0 p)) ?_; clear S; rintro _ a w rfl S
  iterate 2 (refine sq S ?_; clear S; intro a S)
  refine wl_nil ?_
  refine xtn ?_
  refine c_ret ?_
  refine end1 S (fun _ => ?_)
  rw [idxG_any _ xs 0 (by omega)]
  congr 1
  rw [Bool.eq_iff_iff]; simp
instance {x : Int} {p : Option Addr} {n c : Nat} {xs : List Int} {bs fs} [hg : HasG fs p Int layI xs] [hn : LenN xs n] [hk : LeC n 9223372036854775807] : CallV Try.prog 71 [.slice p n c, .int .i64 x] bs fs (.bool (decide (x ∈ xs))) := ⟨fun w m =>
  containsI_c x xs p n c w hn.eq hk.le ((hg.of _ _ m.facts).less fun _ _ h => h.elim)⟩
theorem indexFI_c (F : Nat) [EntF Try.prog F] (ca : List Value) (q : Int → Bool) (xs : List Int) (p : Option Addr) (n c : Nat) (w0 : World) (hn : xs.length = n) (hl : n ≤ 9223372036854775807) (hx : Stable (fun _ => False) w0 (GlF p xs))
    (hF : ∀ x ∈ xs, ∀ w, Agree (fun _ => False) w0 w → Ret Try.prog F (.int .i64 x :: ca) w (fun _ => False) fun v _ => v = .bool (q x)) :
    Ret Try.prog 104 [.slice p n c, .func (.func F) #[] ⟨ca⟩] w0 (fun _ => False) fun v _ => v = .int .i64 (idxG q xs 0) := by
  refine enter Try.func104 rfl rfl (Wd.begin (fs := [GlF p xs]) (by simpa using hx)) (fun a S => ?_)
  simp only [Try.ntmps104, List.length_cons, List.length_nil, Nat.reduceAdd, Nat.reduceSub, List.replicate_succ, List.replicate_zero, List.cons_append, List.nil_append] at S
  refine c_seq ?_
  refine c_region ?_
  refine sq S ?_; clear S; intro a S
  refine wl_nil ?_
  refine xtn ?_
  iterate 2 (refine c_seq ?_)
  refine c_region ?_
  iterate 3 (refine sq S ?_; clear S; intro a S)
  refine wl_nil ?_
  refine xtn ?_
  refine c_block ?_
  refine c_forb1 S (fun (k : Nat) uu => [(4, uu 4), (0, uu 5), (2, .int .i64 (k : Nat)), (0, uu 9), (0, uu 10), (0, uu 11), (0, uu 12), (0, uu 13), (0, uu 14), (0, uu 15), (0, uu 16), (0, uu 17), (0, uu 18)]) (fun (k : Nat) => k ≤ n ∧ idxG q (xs.drop k) k = idxG q xs 0) (fun (k : Nat) => n - k) (0) ?_ S.uu ?_ ?_
  · exact ⟨Nat.zero_le _, rfl⟩
  · first | exact S | exact S.sub _ _
  · clear S; rintro k uu a w ⟨hk, hrel⟩ S
    refine c_seq ?_
    refine c_region ?_
    refine sq S ?_; clear S; intro a S
    refine wl_nil ?_
    refine xtn ?_
    refine c_seq ?_
    refine c_cond S (fun h2 => ?_) (fun h2 => ?_)
    · refine c_skip ?_
      refine xtn ?_
      refine c_seq ?_
      refine c_block ?_
      refine c_seq ?_
      refine c_region ?_
      iterate 2 (refine sq S ?_; clear S; intro a S)
      refine wl_nil ?_
      refine xtn ?_
      refine c_seq ?_
      have hkl : k < n := by simp at h2; omega
      have hK : KLt k n := ⟨hkl⟩
      have hK2 : KLt k xs.length := ⟨by omega⟩
      rw [nthG_drop (show k < xs.length by omega), idxG] at hrel
      refine c_region ?_
      iterate 5 (refine sq S ?_; clear S; intro a S)
      refine sr S (hF (nthG xs k) (nthG_mem (by omega)) w S.wd.agree) ?_; clear S; rintro _ a w rfl S
      refine wl_nil ?_
      refine xtn ?_
      refine c_cond S (fun h4 => ?_) (fun h4 => ?_)
      · refine c_seq ?_
        refine c_region ?_
        iterate 2 (refine sq S ?_; clear S; intro a S)
        refine wl_nil ?_
        refine xtn ?_
        refine c_ret ?_
        refine xbr ?_
        iterate 2 (refine xtr ?_)
        refine xbr ?_
        refine xtr ?_
        rw [if_pos h4] at hrel
        refine end1 S (fun _ => ?_)
        rw [hrel]
      · refine c_skip ?_
        refine xbn ?_
        refine xtn ?_
        refine c_region ?_
        iterate 2 (refine sq S ?_; clear S; intro a S)
        refine wl_nil ?_
        refine xtn ?_
        rw [if_neg (by simpa using h4)] at hrel
        rw [w64 ((k : Int) + 1) (by omega) (by omega)] at S
        exact ⟨k + 1, S.uu, ⟨hkl, by rw [← hrel]; rfl⟩, S.sub _ _, by omega⟩
    · refine c_exit ?_
      iterate 2 (refine xte ?_)
      refine xbe ?_
      refine xtn ?_
      refine c_seq ?_
      refine c_region ?_
      refine sq S ?_; clear S; intro a S
      refine wl_nil ?_
      refine xtn ?_
      refine c_ret ?_
      rw [List.drop_of_length_le (by simp at h2; omega)] at hrel
      refine end1 S (fun _ => ?_)
      rw [← hrel]; rfl
theorem containsFI_c (F : Nat) [EntF Try.prog F] (ca : List Value) (q : Int → Bool) (xs : List Int) (p : Option Addr) (n c : Nat) (w0 : World) (hn : xs.length = n) (hl : n ≤ 9223372036854775807) (hx : Stable (fun _ => False) w0 (GlF p xs))
    (hF : ∀ x ∈ xs, ∀ w, Agree (fun _ => False) w0 w → Ret Try.prog F (.int .i64 x :: ca) w (fun _ => False) fun v _ => v = .bool (q x)) :
    Ret Try.prog 69 [.slice p n c, .func (.func F) #[] ⟨ca⟩] w0 (fun _ => False) fun v _ => v = .bool (xs.any q) := by
  refine enter Try.func69 rfl rfl (Wd.begin (fs := [GlF p xs]) (by simpa using hx)) (fun a S => ?_)
  simp only [Try.ntmps69, List.length_cons, List.length_nil, Nat.reduceAdd, Nat.reduceSub, List.replicate_succ, List.replicate_zero, List.cons_append, List.nil_append] at S
  refine c_seq ?_
  refine c_region ?_
  refine sq S ?_; clear S; intro a S
  refine wl_nil ?_
  refine xtn ?_
  refine c_seq ?_
  refine c_region ?_
  iterate 2 (refine sq S ?_; clear S; intro a S)
  refine sr S (indexFI_c F ca q xs p n c _ hn hl (S.gl0 p) fun x hx w' hw' => hF x hx w' (S.wd.agree.trans hw')) ?_; clear S; rintro _ a w rfl S
  iterate 2 (refine sq S ?_; clear S; intro a S)
  refine wl_nil ?_
  refine xtn ?_
  refine c_ret ?_
  refine end1 S (fun _ => ?_)
  rw [idxG_any q xs 0 (by omega)]
theorem pcheck2_c (b : Nat) (x : Int) (P0 : LPerm) (w0 : World) (hl : P0.rd.xs.length ≤ 9223372036854775807) (hb : Stable (fun _ => False) w0 (BoxF b 56 (cPerm P0))) (hp : Stable (fun _ => False) w0 (InF P0)) : Ret Try.prog 70 [.int .i64 x, .pointer (some ⟨b, 0, none⟩)] w0 (fun _ => False) fun v _ => v = .bool (!decide (x ∈ P0.rd.xs)) := by
  have hLe : LeC P0.rd.xs.length 9223372036854775807 := ⟨hl⟩
  refine enter Try.func70 rfl rfl (Wd.begin (fs := [BoxF b 56 (cPerm P0), InF P0]) (by simp; exact ⟨hb, hp⟩)) (fun a S => ?_)
  simp only [Try.ntmps70, List.length_cons, List.length_nil, Nat.reduceAdd, Nat.reduceSub, List.replicate_succ, List.replicate_zero, List.cons_append, List.nil_append] at S
  refine c_seq ?_
  refine c_region ?_
  refine sq S ?_; clear S; intro a S
  refine wl_nil ?_
  refine xtn ?_
  refine c_seq ?_
  refine c_region ?_
  iterate 3 (refine sq S ?_; clear S; intro a S)
  refine sc S ?_; clear S; intro a w S
  iterate 2 (refine sq S ?_; clear S; intro a S)
  refine wl_nil ?_
  refine xtn ?_
  refine c_ret ?_
  refine end1 S (fun _ => rfl)
instance {b : Nat} {P0 : LPerm} {p : Option Addr} {n c : Nat} {xs : List Int} {bs fs} [hg : HasG fs p Int layI xs] [hn : LenN xs n] [hk : LeC n 9223372036854775807] [hr : LeC P0.rd.xs.length 9223372036854775807] [hb : HasBox bs b 56 (cPerm P0)] [hi : HasI fs P0] : CallV Try.prog 69 [.slice p n c, .func (.func 70) #[] ⟨[.pointer (some ⟨b, 0, none⟩)]⟩] bs fs (.bool (xs.any fun x => !decide (x ∈ P0.rd.xs))) := ⟨fun w m =>
  containsFI_c 70 [.pointer (some ⟨b, 0, none⟩)] (fun x => !decide (x ∈ P0.rd.xs)) xs p n c w hn.eq hk.le ((hg.of _ _ m.facts).less fun _ _ h => h.elim) fun x _ w' hw' => pcheck2_c b x P0 w' hr.le ((BoxF.stable m.box (fun h => h)).later hw') ((m.i0 P0).later hw')⟩
def permB (p : LPerm) : Bool := okU p.owner && decide (1 ≤ p.epoch) && decide (p.epoch ≤ 8) && risF (fun x => okU x && decide (x ≠ p.owner)) none p.rd.xs && risF (fun x => okU x && decide (x ≠ p.owner)) none p.wr.xs && risF okG none p.gr.xs && !(p.wr.xs.any fun x => !decide (x ∈ p.rd.xs))
def permF (p : LPerm) : Int := if permB p then 0 else 210
theorem pcheck_c (p : LPerm) (w0 : World) (hf : Stable (fun _ => False) w0 (InF p)) : Ret Try.prog 29 [vPerm p] w0 (fun _ => False) fun v _ => v = .int .i64 (permF p) := by
  have h0 := hf.now
  have hm : (maxLen : Nat) ≤ 9223372036854775807 := by decide
  have h1 : LeC p.rd.xs.length 9223372036854775807 := ⟨Nat.le_trans (Nat.le_trans h0.1.1 h0.1.2.1) hm⟩
  have h2 : LeC p.wr.xs.length 9223372036854775807 := ⟨Nat.le_trans (Nat.le_trans h0.2.1.1 h0.2.1.2.1) hm⟩
  have h3 : LeC p.gr.xs.length 9223372036854775807 := ⟨Nat.le_trans (Nat.le_trans h0.2.2.1 h0.2.2.2.1) hm⟩
  refine enter Try.func29 rfl rfl (Wd.begin (fs := [InF p]) (by simpa using hf)) (fun a S => ?_)
  simp only [Try.ntmps29, List.length_cons, List.length_nil, Nat.reduceAdd, Nat.reduceSub, List.replicate_succ, List.replicate_zero, List.cons_append, List.nil_append] at S
  refine c_seq ?_
  refine c_region ?_
  refine sa S ?_; clear S; intro b1 a w S
  refine sq S ?_; clear S; intro a S
  refine wl_nil ?_
  refine xtn ?_
  refine c_seq ?_
  refine c_region ?_
  iterate 2 (refine sq S ?_; clear S; intro a S)
  refine wl_nil ?_
  refine xtn ?_
  refine c_seq ?_
  refine c_region ?_
  iterate 2 (refine sq S ?_; clear S; intro a S)
  refine sc S ?_; clear S; intro a w S
  refine sq S ?_; clear S; intro a S
  iterate 3 (refine gQ S ?_; clear S; intro a S)
  iterate 2 (refine sq S ?_; clear S; intro a S)
  iterate 3 (refine gQ S ?_; clear S; intro a S)
  iterate 2 (refine sq S ?_; clear S; intro a S)
  iterate 3 (refine gQ S ?_; clear S; intro a S)
  refine gC S ?_; clear S; intro a w S
  iterate 2 (refine sq S ?_; clear S; intro a S)
  iterate 3 (refine gQ S ?_; clear S; intro a S)
  refine gC S ?_; clear S; intro a w S
  iterate 2 (refine sq S ?_; clear S; intro a S)
  iterate 2 (refine gQ S ?_; clear S; intro a S)
  refine gC S ?_; clear S; intro a w S
  iterate 2 (refine sq S ?_; clear S; intro a S)
  refine wl_nil ?_
  refine xtn ?_
  iterate 2 (refine c_seq ?_)
  refine c_region ?_
  iterate 3 (refine sq S ?_; clear S; intro a S)
  iterate 3 (refine gQ S ?_; clear S; intro a S)
  refine gC S ?_; clear S; intro a w S
  refine sq S ?_; clear S; intro a S
  refine wl_nil ?_
  refine xtn ?_
  refine c_cond S (fun h3 => ?_) (fun h3 => ?_)
  · refine c_seq ?_
    refine c_region ?_
    refine sq S ?_; clear S; intro a S
    refine wl_nil ?_
    refine xtn ?_
    refine c_ret ?_
    refine xtr ?_
    have key : ∀ A B : Bool, (!A || B) = true → (A && !B) = false := by decide
    have e : permB p = false := key _ _ h3
    refine end1 S (fun _ => ?_)
    rw [permF, e]; rfl
  · refine c_skip ?_
    refine xtn ?_
    refine c_seq ?_
    refine c_region ?_
    refine sq S ?_; clear S; intro a S
    refine wl_nil ?_
    refine xtn ?_
    refine c_ret ?_
    have key : ∀ A B : Bool, (!A || B) = false → (A && !B) = true := by decide
    have e : permB p = true := key _ _ h3
    refine end1 S (fun _ => ?_)
    rw [permF, e]; rfl
instance {p : LPerm} {bs fs} [h : HasI fs p] : CallV Try.prog 29 [.agg ⟨[.int .i64 p.owner, .int .i64 p.epoch, .slice p.rd.p p.rd.xs.length p.rd.cap, .slice p.wr.p p.wr.xs.length p.wr.cap, .slice p.gr.p p.gr.xs.length p.gr.cap]⟩] bs fs (.int .i64 (permF p)) := ⟨fun w m => pcheck_c p w (m.i0 p)⟩

/-! who belongs to what -/
structure LBel where
  group : Int
  user : Int
instance encBel : Enc LBel := ⟨2, fun m => [.int .i64 m.group, .int .i64 m.user], fun _ => rfl, fun x u hu => by simp only [List.mem_cons, List.not_mem_nil, or_false] at hu; rcases hu with rfl | rfl <;> rfl⟩
instance layBel : Lay LBel := { encBel with
  dflt := ⟨0, 0⟩
  inn := fun _ _ => True
  mono := fun _ _ _ _ h => h }
instance : SzE LBel 2 := ⟨rfl, by decide⟩
instance {m : LBel} : CellsOf m [.int .i64 m.group, .int .i64 m.user] := ⟨rfl⟩
def groupsOf (l : List LBel) (who : Int) : List Int := (l.filter fun m => decide (m.user = who)).map LBel.group
theorem groupsOf_take {l : List LBel} {who : Int} {k : Nat} (hk : k < l.length) : groupsOf (l.take (k + 1)) who = groupsOf (l.take k) who ++ (if (nthG l k).user = who then [(nthG l k).group] else []) := by
  rw [nthG_take hk, groupsOf, List.filter_append, List.map_append]
  congr 1
  by_cases h : (nthG l k).user = who <;> simp [h]
theorem groupsOf_get {l : List LBel} {who : Int} {k : Nat} (hk : k < l.length) (h : (nthG l k).user = who) : (groupsOf l who)[(groupsOf (l.take k) who).length]? = some (nthG l k).group := by
  have e : groupsOf l who = groupsOf (l.take k) who ++ groupsOf (l.drop k) who := by
    unfold groupsOf
    rw [← List.map_append, ← List.filter_append, List.take_append_drop]
  rw [e, List.getElem?_append_right (Nat.le_refl _), Nat.sub_self, nthG_drop hk]
  simp [groupsOf, h]
def groupsV (b2 b3 : Nat) : Value := .func (.func 110) #[] ⟨[.pointer (some ⟨b2, 0, none⟩), .pointer (some ⟨b3, 0, none⟩)]⟩
theorem groups_f (l : List LBel) (p : Option Addr) (c : Nat) (who : Int) (w0 : World) : Ret Try.prog 77 [.slice p l.length c, .int .i64 who] w0 (fun _ => False) fun v w' => ∃ b2 b3, v = groupsV b2 b3 ∧ w0.heap.size ≤ b2 ∧ w0.heap.size ≤ b3 ∧ BoxF b2 57 [.slice p l.length c] w' ∧ BoxF b3 3 [.int .i64 who] w' := by
  refine enter Try.func77 rfl rfl (Wd.start w0) (fun a S => ?_)
  simp only [Try.ntmps77, List.length_cons, List.length_nil, Nat.reduceAdd, Nat.reduceSub, List.replicate_succ, List.replicate_zero, List.cons_append, List.nil_append] at S
  refine c_seq ?_
  refine c_region ?_
  refine sa S ?_; clear S; intro b2 a w S
  refine sa S ?_; clear S; intro b3 a w S
  refine sq S ?_; clear S; intro a S
  refine wl_nil ?_
  refine xtn ?_
  refine c_seq ?_
  refine c_region ?_
  iterate 2 (refine sq S ?_; clear S; intro a S)
  refine wl_nil ?_
  refine xtn ?_
  refine c_ret ?_
  have h1 := S.boxF b2
  have h2 := S.boxF b3
  have n1 := S.boxNew b2
  have n2 := S.boxNew b3
  refine end1 S (fun _ => ?_)
  exact ⟨b2, b3, rfl, n1.elim (fun h => h.elim) id, n2.elim (fun h => h.elim) id, h1, h2⟩
theorem groups_it (b2 b3 : Nat) (l : List LBel) (p : Option Addr) (c : Nat) (who : Int) (hl : l.length ≤ 1000000) (w0 : World) (M : Nat → Prop) (hM : ∀ k, M k → k < w0.heap.size) (f1 : Stable M w0 (BoxF b2 57 [.slice p l.length c])) (f2 : Stable M w0 (BoxF b3 3 [.int .i64 who])) (f3 : Stable M w0 (GlF p l)) :
    IterRet Try.prog 110 [.pointer (some ⟨b2, 0, none⟩), .pointer (some ⟨b3, 0, none⟩)] w0 M (fun (x : Int) vs _ _ => vs = [.int .i64 x]) (groupsOf l who) := by
  intro L J Jx hy hJ
  have hF : ∀ Φ ∈ [BoxF b2 57 [.slice p l.length c], BoxF b3 3 [.int .i64 who], GlF p l], Stable M w0 Φ := by simp; exact ⟨f1, f2, f3⟩
  refine (callsIn_wide (n := 0)).2 ?_
  refine enter Try.func110 rfl rfl (Wd.beginM (M := M) (fs := [BoxF b2 57 [.slice p l.length c], BoxF b3 3 [.int .i64 who], GlF p l]) hM hF) (fun a S => ?_)
  simp only [Try.ntmps110, List.length_cons, List.length_nil, Nat.reduceAdd, Nat.reduceSub, List.replicate_succ, List.replicate_zero, List.cons_append, List.nil_append] at S
  refine c_seq ?_
  refine c_region ?_
  iterate 3 (refine sq S ?_; clear S; intro a S)
  refine wl_nil ?_
  refine xtn ?_
  refine c_block ?_
  refine c_loop (ι := Nat) (fun k a w => k ≤ l.length ∧ ∃ N w1, J (groupsOf (l.take k) who).length w1 ∧ ∃ uu : Nat → Value,  St w1 (fun _ => False) [] a w ((.func (.yield L) #[] #[]) :: (.pointer (some ⟨b2, 0, none⟩)) :: (.pointer (some ⟨b3, 0, none⟩)) :: uu 3 :: uu 4 :: uu 5 :: (.slice p l.length c) :: (.int .i64 l.length) :: (.int .i64 (k : Nat)) :: uu 9 :: uu 10 :: uu 11 :: uu 12 :: uu 13 :: uu 14 :: uu 15 :: uu 16 :: uu 17 :: uu 18 :: uu 19 :: uu 20 :: uu 21 :: uu 22 :: uu 23 :: []) [ext N] [BoxF b2 57 [.slice p l.length c], BoxF b3 3 [.int .i64 who], GlF p l]) (fun k => l.length - k) 0 ?_ ?_
  · exact ⟨Nat.zero_le _, M, w0, hJ, S.uu, S⟩
  · clear S
    rintro k a w ⟨hk, N, w1, hJk, uu, S⟩
    refine c_seq ?_
    refine c_region ?_
    refine sq S ?_; clear S; intro a S
    refine wl_nil ?_
    refine xtn ?_
    refine c_seq ?_
    refine c_cond S (fun h1 => ?_) (fun h1 => ?_)
    · refine c_skip ?_
      refine xtn ?_
      refine c_seq ?_
      refine c_block ?_
      refine c_seq ?_
      have hkl : k < l.length := by simp at h1; omega
      have hK : KLt k l.length := ⟨hkl⟩
      have hst := groupsOf_take (who := who) hkl
      refine c_region ?_
      iterate 2 (refine sq S ?_; clear S; intro a S)
      refine sa S ?_; clear S; intro b5 a w S
      refine sw S ?_; clear S; intro a w S
      refine wl_nil ?_
      refine xtn ?_
      refine c_seq ?_
      refine c_region ?_
      iterate 5 (refine sq S ?_; clear S; intro a S)
      refine gS S (fun hb S => ?_) (fun hb S => ?_)
      · refine gT S ?_
        refine sq S ?_; clear S; intro a S
        refine gT S ?_
        refine sq S ?_; clear S; intro a S
        refine gT S ?_
        refine sq S ?_; clear S; intro a S
        refine gT S ?_
        have hu : (nthG l k).user = who := by simpa using hb
        refine sy S (M := M) (wI := w0) (fs0 := [BoxF b2 57 [.slice p l.length c], BoxF b3 3 [.int .i64 who], GlF p l]) hF (hy _ _ _ w1 w (groupsOf_get hkl hu) hJk S.wd.agree rfl) ?_; clear S; intro ok N' a w2 hT hX S
        refine gT S ?_
        iterate 2 (refine sq S ?_; clear S; intro a S)
        refine wl_nil ?_
        refine xtn ?_
        refine c_cond S (fun h3 => ?_) (fun h3 => ?_)
        · refine c_ret ?_
          refine xbr ?_
          iterate 2 (refine xtr ?_)
          refine xbr ?_
          exact endI S ⟨w2, S.wd.agree, .inr (hX (by simpa using h3))⟩
        · refine c_skip ?_
          refine xbn ?_
          refine xtn ?_
          refine c_region ?_
          iterate 2 (refine sq S ?_; clear S; intro a S)
          refine wl_nil ?_
          refine xtn ?_
          have hu : (nthG l k).user = who := by simpa using hb
          rw [if_pos hu] at hst
          rw [w64 ((k : Int) + 1) (by omega) (by omega)] at S
          exact ⟨k + 1, ⟨hkl, N', w2, by rw [hst, List.length_append]; exact hT (by simpa using h3), S.uu, S⟩, by omega⟩
      · refine gF S ?_; clear S; intro a S
        iterate 4 (refine gF S ?_; clear S; intro a S)
        refine sq S ?_; clear S; intro a S
        refine wl_nil ?_
        refine xtn ?_
        refine c_condF S ?_
        refine c_skip ?_
        refine xbn ?_
        refine xtn ?_
        refine c_region ?_
        iterate 2 (refine sq S ?_; clear S; intro a S)
        refine wl_nil ?_
        refine xtn ?_
        have hu : ¬ (nthG l k).user = who := by simpa using hb
        rw [if_neg hu, List.append_nil] at hst
        rw [w64 ((k : Int) + 1) (by omega) (by omega)] at S
        exact ⟨k + 1, ⟨hkl, N, w1, by rw [hst]; exact hJk, S.uu, S.sub _ _⟩, by omega⟩
    · refine c_exit ?_
      iterate 2 (refine xte ?_)
      refine xbe ?_
      refine endI S ⟨w1, S.wd.agree, .inl ?_⟩
      rw [List.take_of_length_le (by simp at h1; omega)] at hJk
      exact hJk
def mayB (p : LPerm) (who : Int) (l : List LBel) : Bool := permB p && (decide (who = p.owner) || decide (who ∈ p.rd.xs) || (okU who && (groupsOf l who).any fun g => decide (g ∈ p.gr.xs)))
theorem mayRead_c (p : LPerm) (who : Int) (l : List LBel) (pl : Option Addr) (cl : Nat) (w0 : World) (hl : l.length ≤ 1000000) (hf : Stable (fun _ => False) w0 (InF p)) (hg : Stable (fun _ => False) w0 (GlF pl l)) : Ret Try.prog 31 [vPerm p, .int .i64 who, .slice pl l.length cl] w0 (fun _ => False) fun v _ => v = .bool (mayB p who l) := by
  have h0 := hf.now
  have hm : (maxLen : Nat) ≤ 9223372036854775807 := by decide
  have h1 : LeC p.rd.xs.length 9223372036854775807 := ⟨Nat.le_trans (Nat.le_trans h0.1.1 h0.1.2.1) hm⟩
  have h2 : LeC p.wr.xs.length 9223372036854775807 := ⟨Nat.le_trans (Nat.le_trans h0.2.1.1 h0.2.1.2.1) hm⟩
  have h3 : LeC p.gr.xs.length 9223372036854775807 := ⟨Nat.le_trans (Nat.le_trans h0.2.2.1 h0.2.2.2.1) hm⟩
  refine enterM Try.func31 rfl rfl (Wd.begin (fs := [InF p, GlF pl l]) (by simp; exact ⟨hf, hg⟩)) (fun a S => ?_)
  simp only [Try.ntmps31, List.length_cons, List.length_nil, Nat.reduceAdd, Nat.reduceSub, List.replicate_succ, List.replicate_zero, List.cons_append, List.nil_append] at S
  refine c_seq ?_
  refine c_region ?_
  refine sa S ?_; clear S; intro b3 a w S
  refine sa S ?_; clear S; intro b4 a w S
  refine sa S ?_; clear S; intro b6 a w S
  refine wl_nil ?_
  refine xtn ?_
  iterate 2 (refine c_seq ?_)
  refine c_region ?_
  refine sq S ?_; clear S; intro a S
  refine sc S ?_; clear S; intro a w S
  refine sq S ?_; clear S; intro a S
  refine wl_nil ?_
  refine xtn ?_
  refine c_cond S (fun h1 => ?_) (fun h1 => ?_)
  · refine c_seq ?_
    refine c_region ?_
    refine sw S ?_; clear S; intro a w S
    refine wl_nil ?_
    refine xtn ?_
    refine c_ret ?_
    refine xtr ?_
    have e : permB p = false := by
      cases h : permB p with
      | false => rfl
      | true => simp [permF, h] at h1
    refine endM1 S (fun _ _ => ?_)
    rw [mayB, e]; rfl
  · refine c_skip ?_
    refine xtn ?_
    iterate 2 (refine c_seq ?_)
    refine c_region ?_
    iterate 5 (refine sq S ?_; clear S; intro a S)
    iterate 3 (refine gQ S ?_; clear S; intro a S)
    refine gC S ?_; clear S; intro a w S
    refine sq S ?_; clear S; intro a S
    refine wl_nil ?_
    refine xtn ?_
    refine c_cond S (fun h3 => ?_) (fun h3 => ?_)
    · refine c_seq ?_
      refine c_region ?_
      refine sw S ?_; clear S; intro a w S
      refine wl_nil ?_
      refine xtn ?_
      refine c_ret ?_
      refine xtr ?_
      have e : permB p = true := by
        cases h : permB p with
        | true => rfl
        | false => simp [permF, h] at h1
      refine endM1 S (fun _ _ => ?_)
      rw [mayB, e, h3]; rfl
    · refine c_skip ?_
      refine xtn ?_
      iterate 2 (refine c_seq ?_)
      refine c_region ?_
      iterate 2 (refine sq S ?_; clear S; intro a S)
      have hlt := foots_lt S
      refine sr S (groups_f l pl cl who w) ?_; clear S; rintro _ a w ⟨g2, g3, rfl, n1, n2, f1, f2⟩ S
      replace S := S.add (Φ := BoxF g2 57 [.slice pl l.length cl]) (BoxF.stable f1 (fun hm => by have := hlt _ hm; omega))
      replace S := S.add (Φ := BoxF g3 3 [.int .i64 who]) (BoxF.stable f2 (fun hm => by have := hlt _ hm; omega))
      clear hlt n1 n2 f1 f2
      refine wl_nil ?_
      refine xtn ?_
      refine c_block ?_
      replace S := S.boxToF b3
      replace S := S.boxToF b4
      refine c_range (κ := Unit) (κx := Unit) (Ds := []) (groupsOf l who)
        (fun _ _ => [Wk.box b6 4 [.bool false], marks []]) (fun _ _ => _) (fun i _ => okU who = true → ∀ g ∈ (groupsOf l who).take i, g ∉ p.gr.xs) (fun _ => [Wk.box b6 4 [.bool true], marks []]) (fun _ => [BoxF b4 3 [.int .i64 who], BoxF b3 56 (cPerm p), BoxF g3 3 [.int .i64 who], BoxF g2 57 [.slice pl l.length cl], InF p, GlF pl l]) (fun c _ => c = .ret ∧ mayB p who l = true) () S (fun M w1 hM hF _ => groups_it g2 g3 l pl cl who hl w1 M hM (hF _ (by simp)) (hF _ (by simp)) (hF _ (by simp))) ⟨by simp, rfl, rfl⟩ ?_ ?_ ?_ ?_
      · clear S
        rintro L D bL M w1 i x vs _ W0 w hx hrel hW0 hgr rfl
        refine ⟨_, inferInstance, fun a S => ?_⟩
        refine c_region ?_
        refine sq S ?_; clear S; intro a S
        refine wl_nil ?_
        refine xtn ?_
        refine rbegin (D := D) (b := bL) S ?_; clear S; intro a w S
        refine c_block ?_
        refine c_seq ?_
        refine c_region ?_
        refine sq S ?_; clear S; intro a S
        refine sc S ?_; clear S; intro a w S
        refine sq S ?_; clear S; intro a S
        iterate 3 (refine gQ S ?_; clear S; intro a S)
        refine gC S ?_; clear S; intro a w S
        refine sq S ?_; clear S; intro a S
        refine wl_nil ?_
        refine xtn ?_
        refine c_cond S (fun h7 => ?_) (fun h7 => ?_)
        · refine c_seq ?_
          refine c_region ?_
          refine sw S ?_; clear S; intro a w S
          refine wl_nil ?_
          refine xtn ?_
          refine c_ret ?_
          refine xbr ?_
          have e : permB p = true := by
            cases h : permB p with
            | true => rfl
            | false => simp [permF, h] at h1
          have h8 : okU who = true ∧ x ∈ p.gr.xs := by simpa using h7
          refine rret (D := D) (b := bL) S fun W hW => ⟨.inl rfl, (), ⟨rfl, ?_⟩, hW⟩
          have h9 : ((groupsOf l who).any fun g => decide (g ∈ p.gr.xs)) = true := List.any_eq_true.2 ⟨x, List.mem_of_getElem? hx, by simpa using h8.2⟩
          rw [mayB, e, h8.1, h9]; simp
        · refine c_skip ?_
          refine xbn ?_
          have hti : (groupsOf l who).take (i + 1) = (groupsOf l who).take i ++ [x] := by rw [List.take_add_one, hx]; rfl
          refine rnext (D := D) (b := bL) S fun W hW => ⟨(), fun hu g hg => ?_, hW⟩
          rw [hti] at hg
          rcases List.mem_append.1 hg with hg | hg
          · exact hrel hu g hg
          · rw [List.mem_singleton.1 hg]
            rw [hu] at h7
            simpa using h7
      · clear S
        rintro D _ a w hrel S
        refine xbn ?_
        refine xtn ?_
        refine c_seq ?_
        refine c_region ?_
        refine sw S ?_; clear S; intro a w S
        refine wl_nil ?_
        refine xtn ?_
        refine c_ret ?_
        rw [List.take_length] at hrel
        replace S := S.join (Ds := [])
        have e : permB p = true := by
          cases h : permB p with
          | true => rfl
          | false => simp [permF, h] at h1
        have h9 : (okU who && (groupsOf l who).any fun g => decide (g ∈ p.gr.xs)) = false := by
          cases hu : okU who with
          | false => rfl
          | true => simpa using hrel hu
        refine endM1 S (fun _ _ => ?_)
        rw [mayB, e, h9, h3]; rfl
      · rintro D _ a w ⟨-, hmay⟩ S
        replace S := S.join (Ds := [])
        repeat (first | refine xbr ?_ | refine xtr ?_)
        refine endM1 S (fun _ _ => ?_)
        rw [hmay]
      · rintro id D _ a w ⟨h, -⟩; cases h
end Go.Proofs.Ytgielmldblopeaa
