/- Package cap: row, find, and what Make calls. -/
import Derived.Test.YtgielmldblopeaaPermA
import Derived.Test.YtgielmldblopeaaTermG
import Derived.Test.YtgielmldblopeaaPlainSafe
import Derived.Test.YtgielmldblopeaaW6
namespace Go.Proofs.Ytgielmldblopeaa
open Go Go.Wk
set_option synthInstance.maxSize 100000
set_option synthInstance.maxHeartbeats 400000
set_option maxRecDepth 100000

def rowS (s : List UInt8) (n : Int) : List UInt8 := s ++ [u8 (48 + n)]
theorem crow_c (s : List UInt8) (n : Int) (hn : 0 ≤ n ∧ n ≤ 9) (hs : s.length ≤ 1000) (w0 : World) : Ret Try.prog 59 [str s, .int .i64 n] w0 (fun _ => False) fun v _ => v = .string ⟨(rowS s n).toArray⟩ := by
  have ha : Ascii (48 + n) := ⟨by omega, by omega⟩
  have hb : LeC (s.length + [u8 (48 + n)].length) 4611686018427387904 := ⟨by simp; omega⟩
  have h32 : IntKind.i32.wrap (48 + n) = 48 + n := by
    have : n = 0 ∨ n = 1 ∨ n = 2 ∨ n = 3 ∨ n = 4 ∨ n = 5 ∨ n = 6 ∨ n = 7 ∨ n = 8 ∨ n = 9 := by omega
    rcases this with rfl | rfl | rfl | rfl | rfl | rfl | rfl | rfl | rfl | rfl <;> rfl
  refine enter Try.func59 rfl rfl (Wd.start w0) (fun a S => ?_)
  simp only [Try.ntmps59, List.length_cons, List.length_nil, Nat.reduceAdd, Nat.reduceSub, List.replicate_succ, List.replicate_zero, List.cons_append, List.nil_append] at S
  refine c_seq ?_
  refine c_region ?_
  refine sq S ?_; clear S; intro a S
  refine wl_nil ?_
  refine xtn ?_
  refine c_seq ?_
  refine c_region ?_
  iterate 3 (refine sq S ?_; clear S; intro a S)
  rw [w64 _ (by omega) (by omega)] at S
  refine sq S ?_; clear S; intro a S
  rw [h32] at S
  iterate 3 (refine sq S ?_; clear S; intro a S)
  refine wl_nil ?_
  refine xtn ?_
  refine c_ret ?_
  refine end1 S (fun _ => ?_)
  rfl
class Dig (n : Int) : Prop where
  lo : 0 ≤ n
  hi : n ≤ 9
instance {s : List UInt8} {n : Int} {bs fs} [hs : LeC s.length 1000] [hn : Dig n] : CallV Try.prog 59 [str s, .int .i64 n] bs fs (str (rowS s n)) := ⟨fun w _ => crow_c s n ⟨hn.lo, hn.hi⟩ hs.le w⟩

structure LKey where
  group : Int
  key : LTerm
instance encKey : Enc LKey := ⟨6, fun k => .int .i64 k.group :: k.key.cells, fun _ => rfl, fun x u hu => by
  rcases List.mem_cons.1 hu with rfl | hu
  · rfl
  · exact encT.one x.key u hu⟩
instance layKey : Lay LKey := { encKey with
  dflt := ⟨0, zeroL⟩
  inn := fun w k => LtIn w k.key
  mono := fun w w' x h hx => LtIn.mono h x.key hx }
instance : SzE LKey 6 := ⟨rfl, by decide⟩
abbrev cKey (k : LKey) : List Value := [.int .i64 k.group, .int .i64 k.key.kind, .int .i64 k.key.user, .int .i64 k.key.num, str k.key.text, .slice k.key.p k.key.kids.length k.key.cap]
instance {k : LKey} : CellsOf k [.int .i64 k.group, .int .i64 k.key.kind, .int .i64 k.key.user, .int .i64 k.key.num, str k.key.text, .slice k.key.p k.key.kids.length k.key.cap] := ⟨rfl⟩
abbrev vKey (k : LKey) : Value := .agg ⟨[.int .i64 k.group, .int .i64 k.key.kind, .int .i64 k.key.user, .int .i64 k.key.num, str k.key.text, .slice k.key.p k.key.kids.length k.key.cap]⟩
instance (priority := 850) hast_key {fs : List (World → Prop)} {k : LKey} [h : HasI fs k] : HasT fs k.key := ⟨fun M w hf => h.of M w hf⟩
def findG {α : Type} [Lay α] (q : α → Bool) (xs : List α) : α × Bool := match xs.find? q with | some x => (x, true) | none => (Lay.dflt, false)
theorem findG_idx {α : Type} [Lay α] (q : α → Bool) : ∀ (xs : List α) (o : Nat), (idxG q xs o = -1 ∧ findG q xs = (Lay.dflt, false)) ∨ ∃ i, idxG q xs o = ((o + i : Nat) : Int) ∧ i < xs.length ∧ findG q xs = (nthG xs i, true)
  | [], o => .inl ⟨rfl, rfl⟩
  | x :: xs, o => by
    rw [idxG, findG, List.find?]
    cases h : q x with
    | true => exact .inr ⟨0, by simp, by simp, by simp [nthG]⟩
    | false =>
      rcases findG_idx q xs (o + 1) with ⟨h1, h2⟩ | ⟨i, h1, h2, h3⟩
      · exact .inl ⟨by simpa using h1, h2⟩
      · refine .inr ⟨i + 1, ?_, by simp; omega, ?_⟩
        · rw [if_neg (by simp), show ((o : Int) + 1) = ((o + 1 : Nat) : Int) from rfl, h1]; omega
        · exact h3
theorem indexKey_c (F : Nat) [EntF Try.prog F] (ca : List Value) (q : LKey → Bool) (xs : List LKey) (p : Option Addr) (n c : Nat) (w0 : World) (hn : xs.length = n) (hl : n ≤ 9223372036854775807) (hx : Stable (fun _ => False) w0 (GlF p xs))
    (hF : ∀ x ∈ xs, ∀ w, Agree (fun _ => False) w0 w → Ret Try.prog F (vKey x :: ca) w (fun _ => False) fun v _ => v = .bool (q x)) :
    Ret Try.prog 99 [.slice p n c, .func (.func F) #[] ⟨ca⟩] w0 (fun _ => False) fun v _ => v = .int .i64 (idxG q xs 0) := by
  refine enter Try.func99 rfl rfl (Wd.begin (fs := [GlF p xs]) (by simpa using hx)) (fun a S => ?_)
  simp only [Try.ntmps99, List.length_cons, List.length_nil, Nat.reduceAdd, Nat.reduceSub, List.replicate_succ, List.replicate_zero, List.cons_append, List.nil_append] at S
  refine c_seq ?_
  refine c_region ?_
  refine sq S ?_; clear S; intro a S
  refine wl_nil ?_
  refine xtn ?_
  iterate 2 (refine c_seq ?_)
  refine c_region ?_
  iterate 3 (refine sq S ?_; clear S; intro a S)
  refine wl_nil ?_
  refine xtn ?_
  refine c_block ?_
  refine c_forb1 S (fun (k : Nat) uu => [(4, uu 4), (0, uu 5), (2, .int .i64 (k : Nat)), (0, uu 9), (0, uu 10), (0, uu 11), (0, uu 12), (0, uu 13), (0, uu 14), (0, uu 15), (0, uu 16), (0, uu 17), (0, uu 18)]) (fun (k : Nat) => k ≤ n ∧ idxG q (xs.drop k) k = idxG q xs 0) (fun (k : Nat) => n - k) (0) ?_ S.uu ?_ ?_
  · exact ⟨Nat.zero_le _, rfl⟩
  · first | exact S | exact S.sub _ _
  · clear S; rintro k uu a w ⟨hk, hrel⟩ S
    refine c_seq ?_
    refine c_region ?_
    refine sq S ?_; clear S; intro a S
    refine wl_nil ?_
    refine xtn ?_
    refine c_seq ?_
    refine c_cond S (fun h2 => ?_) (fun h2 => ?_)
    · refine c_skip ?_
      refine xtn ?_
      refine c_seq ?_
      refine c_block ?_
      refine c_seq ?_
      refine c_region ?_
      iterate 2 (refine sq S ?_; clear S; intro a S)
      refine wl_nil ?_
      refine xtn ?_
      refine c_seq ?_
      have hkl : k < n := by simp at h2; omega
      have hK : KLt k n := ⟨hkl⟩
      have hK2 : KLt k xs.length := ⟨by omega⟩
      rw [nthG_drop (show k < xs.length by omega), idxG] at hrel
      refine c_region ?_
      iterate 5 (refine sq S ?_; clear S; intro a S)
      refine sr S (hF (nthG xs k) (nthG_mem (by omega)) w S.wd.agree) ?_; clear S; rintro _ a w rfl S
      refine wl_nil ?_
      refine xtn ?_
      refine c_cond S (fun h4 => ?_) (fun h4 => ?_)
      · refine c_seq ?_
        refine c_region ?_
        iterate 2 (refine sq S ?_; clear S; intro a S)
        refine wl_nil ?_
        refine xtn ?_
        refine c_ret ?_
        refine xbr ?_
        iterate 2 (refine xtr ?_)
        refine xbr ?_
        refine xtr ?_
        rw [if_pos h4] at hrel
        refine end1 S (fun _ => ?_)
        rw [hrel]
      · refine c_skip ?_
        refine xbn ?_
        refine xtn ?_
        refine c_region ?_
        iterate 2 (refine sq S ?_; clear S; intro a S)
        refine wl_nil ?_
        refine xtn ?_
        rw [if_neg (by simpa using h4)] at hrel
        rw [w64 ((k : Int) + 1) (by omega) (by omega)] at S
        exact ⟨k + 1, S.uu, ⟨hkl, by rw [← hrel]; rfl⟩, S.sub _ _, by omega⟩
    · refine c_exit ?_
      iterate 2 (refine xte ?_)
      refine xbe ?_
      refine xtn ?_
      refine c_seq ?_
      refine c_region ?_
      refine sq S ?_; clear S; intro a S
      refine wl_nil ?_
      refine xtn ?_
      refine c_ret ?_
      rw [List.drop_of_length_le (by simp at h2; omega)] at hrel
      refine end1 S (fun _ => ?_)
      rw [← hrel]; rfl
theorem containsKey_c (F : Nat) [EntF Try.prog F] (ca : List Value) (q : LKey → Bool) (xs : List LKey) (p : Option Addr) (n c : Nat) (w0 : World) (hn : xs.length = n) (hl : n ≤ 9223372036854775807) (hx : Stable (fun _ => False) w0 (GlF p xs))
    (hF : ∀ x ∈ xs, ∀ w, Agree (fun _ => False) w0 w → Ret Try.prog F (vKey x :: ca) w (fun _ => False) fun v _ => v = .bool (q x)) :
    Ret Try.prog 53 [.slice p n c, .func (.func F) #[] ⟨ca⟩] w0 (fun _ => False) fun v _ => v = .bool (xs.any q) := by
  refine enter Try.func53 rfl rfl (Wd.begin (fs := [GlF p xs]) (by simpa using hx)) (fun a S => ?_)
  simp only [Try.ntmps53, List.length_cons, List.length_nil, Nat.reduceAdd, Nat.reduceSub, List.replicate_succ, List.replicate_zero, List.cons_append, List.nil_append] at S
  refine c_seq ?_
  refine c_region ?_
  refine sq S ?_; clear S; intro a S
  refine wl_nil ?_
  refine xtn ?_
  refine c_seq ?_
  refine c_region ?_
  iterate 2 (refine sq S ?_; clear S; intro a S)
  refine sr S (indexKey_c F ca q xs p n c _ hn hl (S.gl0 p) fun x hx w' hw' => hF x hx w' (S.wd.agree.trans hw')) ?_; clear S; rintro _ a w rfl S
  iterate 2 (refine sq S ?_; clear S; intro a S)
  refine wl_nil ?_
  refine xtn ?_
  refine c_ret ?_
  refine end1 S (fun _ => ?_)
  rw [idxG_any q xs 0 (by omega)]
theorem findKey_c (F : Nat) [EntF Try.prog F] (ca : List Value) (q : LKey → Bool) (xs : List LKey) (p : Option Addr) (n c : Nat) (w0 : World) (hn : xs.length = n) (hl : n ≤ 9223372036854775807) (hx : Stable (fun _ => False) w0 (GlF p xs))
    (hF : ∀ x ∈ xs, ∀ w, Agree (fun _ => False) w0 w → Ret Try.prog F (vKey x :: ca) w (fun _ => False) fun v _ => v = .bool (q x)) :
    Ret Try.prog 61 [.slice p n c, .func (.func F) #[] ⟨ca⟩] w0 (fun _ => False) fun v _ => v = .tuple ⟨[.agg ⟨cKey (findG q xs).1⟩, .bool (findG q xs).2]⟩ := by
  subst hn
  refine enter Try.func61 rfl rfl (Wd.begin (fs := [GlF p xs]) (by simpa using hx)) (fun a S => ?_)
  simp only [Try.ntmps61, List.length_cons, List.length_nil, Nat.reduceAdd, Nat.reduceSub, List.replicate_succ, List.replicate_zero, List.cons_append, List.nil_append] at S
  refine c_seq ?_
  refine c_region ?_
  refine sa S ?_; clear S; intro b4 a w S
  refine sq S ?_; clear S; intro a S
  refine wl_nil ?_
  refine xtn ?_
  iterate 2 (refine c_seq ?_)
  refine c_region ?_
  iterate 2 (refine sq S ?_; clear S; intro a S)
  refine sr S (indexKey_c F ca q xs p xs.length c _ rfl hl (S.gl0 p) fun x hx w' hw' => hF x hx w' (S.wd.agree.trans hw')) ?_; clear S; rintro _ a w rfl S
  refine sq S ?_; clear S; intro a S
  refine wl_nil ?_
  refine xtn ?_
  refine c_seq ?_
  refine c_region ?_
  iterate 2 (refine sq S ?_; clear S; intro a S)
  refine wl_nil ?_
  refine xtn ?_
  refine c_cond S (fun h2 => ?_) (fun h2 => ?_)
  · refine c_seq ?_
    obtain ⟨i, hi, hil, hfi⟩ : ∃ i : Nat, idxG q xs 0 = (i : Int) ∧ i < xs.length ∧ findG q xs = (nthG xs i, true) := by
      rcases findG_idx q xs 0 with ⟨h3, -⟩ | ⟨i, h3, h4, h5⟩
      · rw [show ((0 : Nat) : Int) = 0 from rfl] at h3; rw [h3] at h2; simp at h2
      · exact ⟨i, by simpa using h3, h4, h5⟩
    have hK : KLt i xs.length := ⟨hil⟩
    rw [hi] at S
    refine c_region ?_
    iterate 4 (refine sq S ?_; clear S; intro a S)
    refine sw S ?_; clear S; intro a w S
    refine sq S ?_; clear S; intro a S
    refine wl_nil ?_
    refine xtn ?_
    refine c_ret ?_
    refine xtr ?_
    refine end2 S (fun _ => ?_)
    rw [hfi]
  · refine c_skip ?_
    refine xtn ?_
    refine c_seq ?_
    refine c_region ?_
    refine sa S ?_; clear S; intro b7 a w S
    refine wl_nil ?_
    refine xtn ?_
    refine c_seq ?_
    refine c_region ?_
    refine sq S ?_; clear S; intro a S
    refine sw S ?_; clear S; intro a w S
    refine sq S ?_; clear S; intro a S
    refine wl_nil ?_
    refine xtn ?_
    refine c_ret ?_
    have hfi : findG q xs = (Lay.dflt, false) := by
      rcases findG_idx q xs 0 with ⟨-, h4⟩ | ⟨i, h3, h4, h5⟩
      · exact h4
      · rw [show ((0 : Nat) : Int) = 0 from rfl] at h3; rw [h3] at h2; simp at h2
    refine end2 S (fun _ => ?_)
    rw [hfi]; rfl
end Go.Proofs.Ytgielmldblopeaa
