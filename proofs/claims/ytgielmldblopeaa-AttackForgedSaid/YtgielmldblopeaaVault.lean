/- Package vault: a batch's bytes (that there are some, not which). -/
import Derived.Test.YtgielmldblopeaaTermF
import Derived.Test.YtgielmldblopeaaTermD
import Derived.Test.YtgielmldblopeaaW5
namespace Go.Proofs.Ytgielmldblopeaa
open Go Go.Wk
set_option synthInstance.maxSize 100000
set_option synthInstance.maxHeartbeats 400000
set_option maxRecDepth 100000

structure LRow where
  name : List UInt8
  term : LTerm
instance encRow : Enc LRow := ⟨6, fun r => str r.name :: r.term.cells, fun _ => rfl, fun x u hu => by
  rcases List.mem_cons.1 hu with rfl | hu
  · rfl
  · exact encT.one x.term u hu⟩
instance layRow : Lay LRow := { encRow with
  dflt := ⟨[], zeroL⟩
  inn := fun w r => LtIn w r.term
  mono := fun w w' x h hx => LtIn.mono h x.term hx }
instance : SzE LRow 6 := ⟨rfl, by decide⟩
instance {r : LRow} : CellsOf r [str r.name, .int .i64 r.term.kind, .int .i64 r.term.user, .int .i64 r.term.num, str r.term.text, .slice r.term.p r.term.kids.length r.term.cap] := ⟨rfl⟩
abbrev vRow (r : LRow) : Value := .agg ⟨[str r.name, .int .i64 r.term.kind, .int .i64 r.term.user, .int .i64 r.term.num, str r.term.text, .slice r.term.p r.term.kids.length r.term.cap]⟩
instance (priority := 850) hast_row {fs : List (World → Prop)} {r : LRow} [h : HasI fs r] : HasT fs r.term := ⟨fun M w hf => h.of M w hf⟩
theorem indexRow_c (F : Nat) [EntF Try.prog F] (ca : List Value) (q : LRow → Bool) (xs : List LRow) (p : Option Addr) (n c : Nat) (w0 : World) (hn : xs.length = n) (hl : n ≤ 9223372036854775807) (hx : Stable (fun _ => False) w0 (GlF p xs))
    (hF : ∀ x ∈ xs, ∀ w, Agree (fun _ => False) w0 w → Ret Try.prog F (vRow x :: ca) w (fun _ => False) fun v _ => v = .bool (q x)) :
    Ret Try.prog 152 [.slice p n c, .func (.func F) #[] ⟨ca⟩] w0 (fun _ => False) fun v _ => v = .int .i64 (idxG q xs 0) := by
  refine enter Try.func152 rfl rfl (Wd.begin (fs := [GlF p xs]) (by simpa using hx)) (fun a S => ?_)
  simp only [Try.ntmps152, List.length_cons, List.length_nil, Nat.reduceAdd, Nat.reduceSub, List.replicate_succ, List.replicate_zero, List.cons_append, List.nil_append] at S
  refine c_seq ?_
  refine c_region ?_
  refine sq S ?_; clear S; intro a S
  refine wl_nil ?_
  refine xtn ?_
  iterate 2 (refine c_seq ?_)
  refine c_region ?_
  iterate 3 (refine sq S ?_; clear S; intro a S)
  refine wl_nil ?_
  refine xtn ?_
  refine c_block ?_
  refine c_forb1 S (fun (k : Nat) uu => [(4, uu 4), (0, uu 5), (2, .int .i64 (k : Nat)), (0, uu 9), (0, uu 10), (0, uu 11), (0, uu 12), (0, uu 13), (0, uu 14), (0, uu 15), (0, uu 16), (0, uu 17), (0, uu 18)]) (fun (k : Nat) => k ≤ n ∧ idxG q (xs.drop k) k = idxG q xs 0) (fun (k : Nat) => n - k) (0) ?_ S.uu ?_ ?_
  · exact ⟨Nat.zero_le _, rfl⟩
  · first | exact S | exact S.sub _ _
  · clear S; rintro k uu a w ⟨hk, hrel⟩ S
    refine c_seq ?_
    refine c_region ?_
    refine sq S ?_; clear S; intro a S
    refine wl_nil ?_
    refine xtn ?_
    refine c_seq ?_
    refine c_cond S (fun h2 => ?_) (fun h2 => ?_)
    · refine c_skip ?_
      refine xtn ?_
      refine c_seq ?_
      refine c_block ?_
      refine c_seq ?_
      refine c_region ?_
      iterate 2 (refine sq S ?_; clear S; intro a S)
      refine wl_nil ?_
      refine xtn ?_
      refine c_seq ?_
      have hkl : k < n := by simp at h2; omega
      have hK : KLt k n := ⟨hkl⟩
      have hK2 : KLt k xs.length := ⟨by omega⟩
      rw [nthG_drop (show k < xs.length by omega), idxG] at hrel
      refine c_region ?_
      iterate 5 (refine sq S ?_; clear S; intro a S)
      refine sr S (hF (nthG xs k) (nthG_mem (by omega)) w S.wd.agree) ?_; clear S; rintro _ a w rfl S
      refine wl_nil ?_
      refine xtn ?_
      refine c_cond S (fun h4 => ?_) (fun h4 => ?_)
      · refine c_seq ?_
        refine c_region ?_
        iterate 2 (refine sq S ?_; clear S; intro a S)
        refine wl_nil ?_
        refine xtn ?_
        refine c_ret ?_
        refine xbr ?_
        iterate 2 (refine xtr ?_)
        refine xbr ?_
        refine xtr ?_
        rw [if_pos h4] at hrel
        refine end1 S (fun _ => ?_)
        rw [hrel]
      · refine c_skip ?_
        refine xbn ?_
        refine xtn ?_
        refine c_region ?_
        iterate 2 (refine sq S ?_; clear S; intro a S)
        refine wl_nil ?_
        refine xtn ?_
        rw [if_neg (by simpa using h4)] at hrel
        rw [w64 ((k : Int) + 1) (by omega) (by omega)] at S
        exact ⟨k + 1, S.uu, ⟨hkl, by rw [← hrel]; rfl⟩, S.sub _ _, by omega⟩
    · refine c_exit ?_
      iterate 2 (refine xte ?_)
      refine xbe ?_
      refine xtn ?_
      refine c_seq ?_
      refine c_region ?_
      refine sq S ?_; clear S; intro a S
      refine wl_nil ?_
      refine xtn ?_
      refine c_ret ?_
      rw [List.drop_of_length_le (by simp at h2; omega)] at hrel
      refine end1 S (fun _ => ?_)
      rw [← hrel]; rfl
theorem containsRow_c (F : Nat) [EntF Try.prog F] (ca : List Value) (q : LRow → Bool) (xs : List LRow) (p : Option Addr) (n c : Nat) (w0 : World) (hn : xs.length = n) (hl : n ≤ 9223372036854775807) (hx : Stable (fun _ => False) w0 (GlF p xs))
    (hF : ∀ x ∈ xs, ∀ w, Agree (fun _ => False) w0 w → Ret Try.prog F (vRow x :: ca) w (fun _ => False) fun v _ => v = .bool (q x)) :
    Ret Try.prog 124 [.slice p n c, .func (.func F) #[] ⟨ca⟩] w0 (fun _ => False) fun v _ => v = .bool (xs.any q) := by
  refine enter Try.func124 rfl rfl (Wd.begin (fs := [GlF p xs]) (by simpa using hx)) (fun a S => ?_)
  simp only [Try.ntmps124, List.length_cons, List.length_nil, Nat.reduceAdd, Nat.reduceSub, List.replicate_succ, List.replicate_zero, List.cons_append, List.nil_append] at S
  refine c_seq ?_
  refine c_region ?_
  refine sq S ?_; clear S; intro a S
  refine wl_nil ?_
  refine xtn ?_
  refine c_seq ?_
  refine c_region ?_
  iterate 2 (refine sq S ?_; clear S; intro a S)
  refine sr S (indexRow_c F ca q xs p n c _ hn hl (S.gl0 p) fun x hx w' hw' => hF x hx w' (S.wd.agree.trans hw')) ?_; clear S; rintro _ a w rfl S
  iterate 2 (refine sq S ?_; clear S; intro a S)
  refine wl_nil ?_
  refine xtn ?_
  refine c_ret ?_
  refine end1 S (fun _ => ?_)
  rw [idxG_any q xs 0 (by omega)]
theorem gone_c (r : LRow) (w0 : World) (hf : Stable (fun _ => False) w0 (LtF r.term)) : Ret Try.prog 151 [vRow r] w0 (fun _ => False) fun v _ => v = .bool (sameF r.term.t zeroT) := by
  refine enter Try.func151 rfl rfl (Wd.begin (fs := [LtF r.term]) (by simpa using hf)) (fun a S => ?_)
  simp only [Try.ntmps151, List.length_cons, List.length_nil, Nat.reduceAdd, Nat.reduceSub, List.replicate_succ, List.replicate_zero, List.cons_append, List.nil_append] at S
  refine c_seq ?_
  refine c_region ?_
  refine sa S ?_; clear S; intro b1 a w S
  refine sq S ?_; clear S; intro a S
  refine wl_nil ?_
  refine xtn ?_
  refine c_seq ?_
  refine c_region ?_
  iterate 3 (refine sq S ?_; clear S; intro a S)
  refine sr S (same_c r.term zeroL w (S.t0 _) (S.t0 _)) ?_; clear S; rintro _ a w rfl S
  refine sq S ?_; clear S; intro a S
  refine wl_nil ?_
  refine xtn ?_
  refine c_ret ?_
  refine end1 S (fun _ => rfl)
instance {r : LRow} {bs fs} [HasT fs r.term] : CallV Try.prog 151 [vRow r] bs fs (.bool (sameF r.term.t zeroT)) := ⟨fun w m => gone_c r w (m.t0 _)⟩
theorem rowRight_c (r : LRow) (w0 : World) (hl : r.name.length ≤ 1000000000) (hf : Stable (fun _ => False) w0 (LtF r.term)) : Ret Try.prog 123 [vRow r] w0 (fun _ => False) fun v _ => ∃ b, v = .bool b := by
  refine enter Try.func123 rfl rfl (Wd.begin (fs := [LtF r.term]) (by simpa using hf)) (fun a S => ?_)
  simp only [Try.ntmps123, List.length_cons, List.length_nil, Nat.reduceAdd, Nat.reduceSub, List.replicate_succ, List.replicate_zero, List.cons_append, List.nil_append] at S
  refine c_seq ?_
  refine c_region ?_
  refine sa S ?_; clear S; intro b1 a w S
  refine sq S ?_; clear S; intro a S
  refine wl_nil ?_
  refine xtn ?_
  iterate 2 (refine c_seq ?_)
  refine c_region ?_
  iterate 4 (refine sq S ?_; clear S; intro a S)
  refine wl_nil ?_
  refine xtn ?_
  refine c_block ?_
  refine c_forb1 S (fun (k : Nat) uu => [(2, uu 2), (0, uu 3), (5, .int .i64 (k : Nat)), (0, uu 10), (0, uu 11), (0, uu 12), (0, uu 13), (0, uu 14), (0, uu 15), (0, uu 16), (0, uu 17), (0, uu 18), (0, uu 19), (0, uu 20), (0, uu 21), (0, uu 22), (0, uu 23), (0, uu 24)]) (fun (k : Nat) => k ≤ r.name.length) (fun (k : Nat) => r.name.length - k) (0) ?_ S.uu ?_ ?_
  · exact Nat.zero_le _
  · first | exact S | exact S.sub _ _
  · clear S; rintro k uu a w hk S
    refine c_seq ?_
    refine c_region ?_
    refine sq S ?_; clear S; intro a S
    refine wl_nil ?_
    refine xtn ?_
    refine c_seq ?_
    refine c_cond S (fun h2 => ?_) (fun h2 => ?_)
    · refine c_skip ?_
      refine xtn ?_
      refine c_seq ?_
      refine c_block ?_
      refine c_seq ?_
      refine c_region ?_
      iterate 2 (refine sq S ?_; clear S; intro a S)
      refine wl_nil ?_
      refine xtn ?_
      refine c_seq ?_
      have hkl : k < r.name.length := by simp at h2; omega
      have hK : KLt k r.name.length := ⟨hkl⟩
      refine c_region ?_
      iterate 6 (refine sq S ?_; clear S; intro a S)
      iterate 5 (refine gQ S ?_; clear S; intro a S)
      refine sq S ?_; clear S; intro a S
      refine wl_nil ?_
      refine xtn ?_
      refine c_cond S (fun h4 => ?_) (fun h4 => ?_)
      · refine c_seq ?_
        refine c_region ?_
        refine sq S ?_; clear S; intro a S
        refine wl_nil ?_
        refine xtn ?_
        refine c_ret ?_
        refine xbr ?_
        iterate 2 (refine xtr ?_)
        refine xbr ?_
        refine xtr ?_
        exact end1 S (fun _ => ⟨_, rfl⟩)
      · refine c_skip ?_
        refine xbn ?_
        refine xtn ?_
        refine c_region ?_
        iterate 2 (refine sq S ?_; clear S; intro a S)
        refine wl_nil ?_
        refine xtn ?_
        rw [w64 ((k : Int) + 1) (by omega) (by omega)] at S
        exact ⟨k + 1, S.uu, hkl, S.sub _ _, by omega⟩
    · refine c_exit ?_
      iterate 2 (refine xte ?_)
      refine xbe ?_
      refine xtn ?_
      refine c_seq ?_
      refine c_region ?_
      iterate 2 (refine sq S ?_; clear S; intro a S)
      refine srn S (encode_c r.term _ (S.t0 r.term)) ?_; clear S; rintro _ a w ⟨p, c, rfl, hown, hnew⟩ hS -
      have S := hS hown hnew
      clear hS
      iterate 5 (refine sq S ?_; clear S; intro a S)
      refine wl_nil ?_
      refine xtn ?_
      refine c_seq ?_
      refine c_region ?_
      iterate 5 (refine sq S ?_; clear S; intro a S)
      iterate 4 (refine gQ S ?_; clear S; intro a S)
      iterate 2 (refine sq S ?_; clear S; intro a S)
      refine gQ S ?_; clear S; intro a S
      refine gC S ?_; clear S; intro a w S
      iterate 9 (refine gQ S ?_; clear S; intro a S)
      iterate 2 (refine sq S ?_; clear S; intro a S)
      refine wl_nil ?_
      refine xtn ?_
      refine c_ret ?_
      exact end1 S (fun _ => ⟨_, rfl⟩)
theorem batch1_c (x : LRow) (b : Nat) (r : LRow) (w0 : World) (hb : Stable (fun _ => False) w0 (BoxF b 37 (Enc.cells r))) : Ret Try.prog 125 [vRow x, .pointer (some ⟨b, 0, none⟩)] w0 (fun _ => False) fun v _ => v = .bool (decide (x.name = r.name)) := by
  refine enter Try.func125 rfl rfl (Wd.begin (fs := [BoxF b 37 [str r.name, .int .i64 r.term.kind, .int .i64 r.term.user, .int .i64 r.term.num, str r.term.text, .slice r.term.p r.term.kids.length r.term.cap]]) (fun Φ h => by obtain rfl := List.mem_singleton.1 h; exact hb)) (fun a S => ?_)
  simp only [Try.ntmps125, List.length_cons, List.length_nil, Nat.reduceAdd, Nat.reduceSub, List.replicate_succ, List.replicate_zero, List.cons_append, List.nil_append] at S
  refine c_seq ?_
  refine c_region ?_
  refine sa S ?_; clear S; intro b2 a w S
  refine sq S ?_; clear S; intro a S
  refine wl_nil ?_
  refine xtn ?_
  refine c_seq ?_
  refine c_region ?_
  iterate 6 (refine sq S ?_; clear S; intro a S)
  refine wl_nil ?_
  refine xtn ?_
  refine c_ret ?_
  exact end1 S (fun _ => rfl)
theorem batch_c (xs : List LRow) (p : Option Addr) (c : Nat) (w0 : World) (hc : xs.length ≤ c) (hl : ∀ x ∈ xs, x.name.length ≤ 1000000000) (hll : xs.length ≤ 1000000000) (hx : Stable (fun _ => False) w0 (GlF p xs)) : Ret Try.prog 86 [.slice p xs.length c] w0 (fun _ => False) fun v _ => ∃ b, v = .bool b := by
  refine enter Try.func86 rfl rfl (Wd.begin (fs := [GlF p xs]) (by simpa using hx)) (fun a S => ?_)
  simp only [Try.ntmps86, List.length_cons, List.length_nil, Nat.reduceAdd, Nat.reduceSub, List.replicate_succ, List.replicate_zero, List.cons_append, List.nil_append] at S
  refine c_seq ?_
  refine c_region ?_
  refine sq S ?_; clear S; intro a S
  refine wl_nil ?_
  refine xtn ?_
  iterate 2 (refine c_seq ?_)
  refine c_region ?_
  iterate 3 (refine sq S ?_; clear S; intro a S)
  refine wl_nil ?_
  refine xtn ?_
  refine c_block ?_
  refine c_forb1 S (fun (k : Nat) uu => [(2, uu 2), (0, uu 3), (0, uu 4), (2, .int .i64 (k : Nat)), (0, uu 8), (0, uu 9), (0, uu 10), (0, uu 11), (0, uu 12), (0, uu 13), (0, uu 14), (0, uu 15), (0, uu 16), (0, uu 17), (0, uu 18), (0, uu 19), (0, uu 20), (0, uu 21), (0, uu 22)]) (fun (k : Nat) => k ≤ xs.length) (fun (k : Nat) => xs.length - k) (0) ?_ S.uu ?_ ?_
  · exact Nat.zero_le _
  · first | exact S | exact S.sub _ _
  · clear S; rintro k uu a w hk S
    refine c_seq ?_
    refine c_region ?_
    refine sq S ?_; clear S; intro a S
    refine wl_nil ?_
    refine xtn ?_
    refine c_seq ?_
    refine c_cond S (fun h2 => ?_) (fun h2 => ?_)
    · refine c_skip ?_
      refine xtn ?_
      refine c_seq ?_
      refine c_block ?_
      refine c_seq ?_
      have hkl : k < xs.length := by simp at h2; omega
      have hK : KLt k xs.length := ⟨hkl⟩
      have hle : LeC k c := ⟨by omega⟩
      refine c_region ?_
      iterate 3 (refine sq S ?_; clear S; intro a S)
      refine sa S ?_; clear S; intro b4 a w S
      refine sq S ?_; clear S; intro a S
      refine sw S ?_; clear S; intro a w S
      refine wl_nil ?_
      refine xtn ?_
      refine c_seq ?_
      refine c_region ?_
      refine sq S ?_; clear S; intro a S
      refine sr S (rowRight_c (nthG xs k) w (hl _ (nthG_mem hkl)) (S.t0 (nthG xs k).term)) ?_; clear S; rintro _ a w ⟨b, rfl⟩ S
      iterate 2 (refine sq S ?_; clear S; intro a S)
      refine gS S (fun hs S => ?_) (fun hs S => ?_)
      · refine gF' S ?_; clear S; intro a S
        iterate 4 (refine gF' S ?_; clear S; intro a S)
        refine sq S ?_; clear S; intro a S
        refine wl_nil ?_
        refine xtn ?_
        refine c_condT S ?_
        refine c_seq ?_
        refine c_region ?_
        refine sq S ?_; clear S; intro a S
        refine wl_nil ?_
        refine xtn ?_
        refine c_ret ?_
        refine xbr ?_
        iterate 2 (refine xtr ?_)
        refine xbr ?_
        refine xtr ?_
        exact end1 S (fun _ => ⟨_, rfl⟩)
      · refine gT' S ?_
        refine sq S ?_; clear S; intro a S
        refine gT' S ?_
        refine sq S ?_; clear S; intro a S
        refine gT' S ?_
        refine sq S ?_; clear S; intro a S
        refine gT' S ?_
        refine sq S ?_; clear S; intro a S
        refine gT' S ?_
        have hg : Stable (fun _ => False) w (GlF p (xs.take k)) := (S.gl0 p).imp fun _ h => h.take k
        refine sr S (containsRow_c 125 [.pointer (some ⟨b4, 0, none⟩)] (fun x => decide (x.name = (nthG xs k).name)) (xs.take k) p k c w (by simp; omega) (by omega) hg fun x hx w' hw' => batch1_c x b4 (nthG xs k) w' ((BoxF.stable (M := fun _ => False) (S.boxF b4) (fun h => h)).later hw')) ?_; clear S hg; rintro _ a w rfl S
        refine sq S ?_; clear S; intro a S
        refine wl_nil ?_
        refine xtn ?_
        refine c_cond S (fun h4 => ?_) (fun h4 => ?_)
        · refine c_seq ?_
          refine c_region ?_
          refine sq S ?_; clear S; intro a S
          refine wl_nil ?_
          refine xtn ?_
          refine c_ret ?_
          refine xbr ?_
          iterate 2 (refine xtr ?_)
          refine xbr ?_
          refine xtr ?_
          exact end1 S (fun _ => ⟨_, rfl⟩)
        · refine c_skip ?_
          refine xbn ?_
          refine xtn ?_
          refine c_region ?_
          iterate 2 (refine sq S ?_; clear S; intro a S)
          refine wl_nil ?_
          refine xtn ?_
          rw [w64 ((k : Int) + 1) (by omega) (by omega)] at S
          exact ⟨k + 1, S.uu, hkl, S.sub _ _, by omega⟩
    · refine c_exit ?_
      iterate 2 (refine xte ?_)
      refine xbe ?_
      refine xtn ?_
      refine c_seq ?_
      refine c_region ?_
      iterate 4 (refine sq S ?_; clear S; intro a S)
      refine wl_nil ?_
      refine xtn ?_
      refine c_ret ?_
      exact end1 S (fun _ => ⟨_, rfl⟩)
theorem vencode_c (xs : List LRow) (p : Option Addr) (c : Nat) (w0 : World) (hc : xs.length ≤ c) (hl : ∀ x ∈ xs, x.name.length ≤ 40) (hll : xs.length ≤ 6) (hx : Stable (fun _ => False) w0 (GlF p xs)) :
    Ret Try.prog 38 [.slice p xs.length c] w0 (fun _ => False) fun v _ => ∃ (p' : Option Addr) (n' c' : Nat) (e : Int), v = .tuple ⟨[.slice p' n' c', .int .i64 e]⟩ := by
  refine enter Try.func38 rfl rfl (Wd.begin (fs := [GlF p xs]) (by simpa using hx)) (fun a S => ?_)
  simp only [Try.ntmps38, List.length_cons, List.length_nil, Nat.reduceAdd, Nat.reduceSub, List.replicate_succ, List.replicate_zero, List.cons_append, List.nil_append] at S
  refine c_seq ?_
  refine c_region ?_
  iterate 2 (refine sq S ?_; clear S; intro a S)
  refine wl_nil ?_
  refine xtn ?_
  iterate 2 (refine c_seq ?_)
  refine c_region ?_
  iterate 4 (refine sq S ?_; clear S; intro a S)
  refine gS S (fun hs1 S => ?_) (fun hs1 S => ?_)
  · refine gF' S ?_; clear S; intro a S
    iterate 2 (refine gF' S ?_; clear S; intro a S)
    refine sq S ?_; clear S; intro a S
    refine wl_nil ?_
    refine xtn ?_
    refine c_condT S ?_
    refine c_seq ?_
    refine c_region ?_
    iterate 2 (refine sq S ?_; clear S; intro a S)
    refine wl_nil ?_
    refine xtn ?_
    refine c_ret ?_
    refine xtr ?_
    exact end2 S (fun _ => ⟨_, _, _, _, rfl⟩)
  · refine gT' S ?_
    refine sq S ?_; clear S; intro a S
    refine gT' S ?_
    refine sr S (batch_c xs p c _ hc (fun x h => by have := hl x h; omega) (by omega) (S.gl0 p)) ?_; clear S; rintro _ a w ⟨b, rfl⟩ S
    refine gT' S ?_
    iterate 2 (refine sq S ?_; clear S; intro a S)
    refine wl_nil ?_
    refine xtn ?_
    refine c_cond S (fun h1 => ?_) (fun h1 => ?_)
    · refine c_seq ?_
      refine c_region ?_
      iterate 2 (refine sq S ?_; clear S; intro a S)
      refine wl_nil ?_
      refine xtn ?_
      refine c_ret ?_
      refine xtr ?_
      exact end2 S (fun _ => ⟨_, _, _, _, rfl⟩)
    · refine c_skip ?_
      refine xtn ?_
      refine c_seq ?_
      refine c_region ?_
      iterate 3 (refine sq S ?_; clear S; intro a S)
      refine sn S ?_; clear S; intro b20 a w S
      replace S := S.boxRow b20 1 1 rfl (by simp [maxLen])
      rw [show [Value.int .u8 (IntKind.u8.wrap (xs.length : Int))] = encL [Wk.u8 xs.length] from by rw [u8_wrap]; rfl] at S
      refine sq S ?_; clear S; intro a S
      refine wl_nil ?_
      refine xtn ?_
      iterate 2 (refine c_seq ?_)
      refine c_region ?_
      iterate 3 (refine sq S ?_; clear S; intro a S)
      refine wl_nil ?_
      refine xtn ?_
      refine c_block ?_
      refine c_forf4 S (fun (k : Nat) (b : List UInt8) (p' : Option Addr) (c' : Nat) uu => [(4, .slice p' b.length c'), (1, uu 6), (0, uu 7), (0, uu 8), (14, .int .i64 (k : Nat)), (0, uu 24), (0, uu 25), (0, uu 26), (0, uu 27), (0, uu 28), (0, uu 29), (0, uu 30), (0, uu 31), (0, uu 32), (0, uu 33), (0, uu 34), (0, uu 35), (0, uu 36), (0, uu 37), (0, uu 38), (0, uu 39), (0, uu 40), (0, uu 41), (0, uu 42), (0, uu 43), (0, uu 44), (0, uu 45), (0, uu 46), (0, uu 47), (0, uu 48), (0, uu 49), (0, uu 50)]) (fun (k : Nat) (b : List UInt8) (p' : Option Addr) (c' : Nat) => [Wk.row 5 1 p' b.length c' (encL b)]) (fun (k : Nat) (b : List UInt8) (p' : Option Addr) (c' : Nat) => k ≤ xs.length ∧ b.length ≤ 1 + k * 84100) (fun (k : Nat) (b : List UInt8) (p' : Option Addr) (c' : Nat) => xs.length - k) (0) ([Wk.u8 xs.length]) (some ⟨b20, 0, none⟩) (1) ?_ S.uu ?_ ?_
      · exact ⟨Nat.zero_le _, by simp⟩
      · first | exact S | exact S.sub _ _
      · clear S; rintro k b p' c' uu a w ⟨hk, hb⟩ S
        refine c_seq ?_
        refine c_region ?_
        refine sq S ?_; clear S; intro a S
        refine wl_nil ?_
        refine xtn ?_
        refine c_seq ?_
        refine c_cond S (fun h5 => ?_) (fun h5 => ?_)
        · refine c_skip ?_
          refine xtn ?_
          refine c_seq ?_
          refine c_block ?_
          refine c_seq ?_
          have hkl : k < xs.length := by simp at h5; omega
          have hK : KLt k xs.length := ⟨hkl⟩
          have hn40 := hl _ (nthG_mem hkl)
          have hb2 : b.length ≤ 504601 := by omega
          refine c_region ?_
          iterate 2 (refine sq S ?_; clear S; intro a S)
          refine sa S ?_; clear S; intro b6 a w S
          refine sw S ?_; clear S; intro a w S
          refine wl_nil ?_
          refine xtn ?_
          refine c_seq ?_
          refine c_drawE [(0, true), (1, true), (2, true), (3, true), (4, true), (7, true), (8, true), (5, false), (6, false), (9, false), (10, true)] [Wk.box b6 37 [str (nthG xs k).name, .int .i64 (nthG xs k).term.kind, .int .i64 (nthG xs k).term.user, .int .i64 (nthG xs k).term.num, str (nthG xs k).term.text, .slice (nthG xs k).term.p (nthG xs k).term.kids.length (nthG xs k).term.cap]] S ?_; clear S; intro w S
          iterate 7 (refine dq S ?_; clear S; intro a S)
          refine dl ?_
          refine sn S ?_; clear S; intro b32 a w S
          refine de S ?_
          refine dl ?_
          refine sap S (by simp [maxLen]; omega) (by omega) ?_; clear S; rintro p7 c7 a w - S
          refine de S ?_
          refine dl ?_
          refine sap S (by simp [maxLen]; omega) (by omega) ?_; clear S; rintro p8 c8 a w - S
          rw [show encL b ++ [Value.int .u8 (IntKind.u8.wrap ((nthG xs k).name.length : Int))] ++ encL (nthG xs k).name = encL (b ++ ([Wk.u8 (nthG xs k).name.length] ++ (nthG xs k).name)) from by rw [u8_wrap]; simp [encL, Enc.cells], show b.length + 1 + (nthG xs k).name.length = (b ++ ([Wk.u8 (nthG xs k).name.length] ++ (nthG xs k).name)).length from by simp; omega] at S
          refine de S ?_
          refine dq S ?_; clear S; intro a S
          refine dn ?_
          refine xtn ?_
          refine c_seq ?_
          refine c_region ?_
          iterate 2 (refine sq S ?_; clear S; intro a S)
          generalize hbb : b ++ ([Wk.u8 (nthG xs k).name.length] ++ (nthG xs k).name) = b2 at S
          have hl2 : b2.length ≤ b.length + 41 := by rw [← hbb]; simp; omega
          refine srn S (encode_c (nthG xs k).term _ (S.t0 (nthG xs k).term)) ?_; clear S; rintro _ a w ⟨p9, c9, rfl, hown, hnew⟩ hS -
          have S := hS hown hnew
          clear hS
          have hnl : (nameF (nthG xs k).term.t).length ≤ 84000 := by
            rw [nameF]; split
            · simp
            · exact bytes_small (by assumption)
          iterate 5 (refine sq S ?_; clear S; intro a S)
          refine wl_nil ?_
          refine xtn ?_
          refine c_region ?_
          iterate 4 (refine sq S ?_; clear S; intro a S)
          have hwr := wu16_range ((nameF (nthG xs k).term.t).length : Int)
          refine srn S (put16_c p8 b2.length c8 b2 (IntKind.u16.wrap ((nameF (nthG xs k).term.t).length : Int)) w rfl (by omega) hwr.1 hwr.2 (sl_stable (S.row p8 b2.length))) ?_; clear S; rintro _ a w ⟨g, rfl, hg, hown2⟩ hS -
          have S := hS hown2 (fun ad h => by cases h; exact hg)
          clear hS
          refine sq S ?_; clear S; intro a S
          refine sap S (by simp [maxLen]; omega) (by omega) ?_; clear S; rintro p10 c10 a w - S
          rw [← encL_append, show b2.length + 2 + (nameF (nthG xs k).term.t).length = (b2 ++ be 2 (IntKind.u16.wrap ((nameF (nthG xs k).term.t).length : Int)) ++ nameF (nthG xs k).term.t).length from by simp [be]; omega] at S
          refine sq S ?_; clear S; intro a S
          refine wl_nil ?_
          refine xbn ?_
          refine xtn ?_
          refine c_region ?_
          iterate 2 (refine sq S ?_; clear S; intro a S)
          refine wl_nil ?_
          refine xtn ?_
          rw [w64 ((k : Int) + 1) (by omega) (by omega)] at S
          refine ⟨k + 1, _, p10, c10, S.uu, ⟨hkl, ?_⟩, S.sub [Wk.row 5 1 p10 (b2 ++ be 2 (IntKind.u16.wrap ((nameF (nthG xs k).term.t).length : Int)) ++ nameF (nthG xs k).term.t).length c10 (encL (b2 ++ be 2 (IntKind.u16.wrap ((nameF (nthG xs k).term.t).length : Int)) ++ nameF (nthG xs k).term.t))] _, by omega⟩
          simp [be]; omega
        · refine c_exit ?_
          iterate 2 (refine xte ?_)
          refine xbe ?_
          refine xtn ?_
          refine c_seq ?_
          refine c_region ?_
          iterate 3 (refine sq S ?_; clear S; intro a S)
          refine wl_nil ?_
          refine xtn ?_
          refine c_ret ?_
          exact end2 S (fun _ => ⟨_, _, _, _, rfl⟩)
end Go.Proofs.Ytgielmldblopeaa
