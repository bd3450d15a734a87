/- Package tree: marks; what may be; where a key is. -/
import Derived.Test.YtmngicgdgpimlaaDoorInst
import Derived.Test.YtmngicgdgpimlaaDoorW6
import Derived.Test.YtmngicgdgpimlaaDoorShelfP
namespace Go.Proofs.YtmngicgdgpimlaaDoor
open Go Go.Wk
set_option synthInstance.maxSize 100000
set_option synthInstance.maxHeartbeats 400000
set_option maxRecDepth 100000

structure LMark where
  key : List UInt8
  ver : Int
instance encMark : Enc LMark := ⟨2, fun m => [str m.key, .int .i64 m.ver], fun _ => rfl, fun x u hu => by simp only [List.mem_cons, List.not_mem_nil, or_false] at hu; rcases hu with rfl | rfl <;> rfl⟩
instance layMark : Lay LMark := { encMark with
  dflt := ⟨[], 0⟩
  inn := fun _ _ => True
  mono := fun _ _ _ _ h => h }
instance : SzE LMark 2 := ⟨rfl, by decide⟩
instance {m : LMark} : CellsOf m [str m.key, .int .i64 m.ver] := ⟨rfl⟩
abbrev vMark (m : LMark) : Value := .agg ⟨[str m.key, .int .i64 m.ver]⟩
def markB (m : LMark) : Bool := !decide (m.key = []) && decide ((m.key.length : Int) ≤ 64) && decide (0 ≤ m.ver) && decide (m.ver ≤ 65535)
theorem marked_c (m : LMark) (w0 : World) : Ret Tryd.prog 52 [vMark m] w0 (fun _ => False) fun v _ => v = .bool (markB m) := by
  refine enter Tryd.func52 rfl rfl (Wd.start w0) (fun a S => ?_)
  simp only [Tryd.ntmps52, List.length_cons, List.length_nil, Nat.reduceAdd, Nat.reduceSub, List.replicate_succ, List.replicate_zero, List.cons_append, List.nil_append] at S
  refine c_seq ?_
  refine c_region ?_
  refine sa S ?_; clear S; intro b1 a w S
  refine sq S ?_; clear S; intro a S
  refine wl_nil ?_
  refine xtn ?_
  refine c_seq ?_
  refine c_region ?_
  iterate 4 (refine sq S ?_; clear S; intro a S)
  iterate 4 (refine gQ S ?_; clear S; intro a S)
  iterate 2 (refine sq S ?_; clear S; intro a S)
  iterate 3 (refine gQ S ?_; clear S; intro a S)
  iterate 2 (refine sq S ?_; clear S; intro a S)
  iterate 3 (refine gQ S ?_; clear S; intro a S)
  iterate 2 (refine sq S ?_; clear S; intro a S)
  refine wl_nil ?_
  refine xtn ?_
  refine c_ret ?_
  refine end1 S (fun _ => rfl)
instance {m : LMark} {bs fs} : CallV Tryd.prog 52 [.agg ⟨[str m.key, .int .i64 m.ver]⟩] bs fs (.bool (markB m)) := ⟨fun w _ => marked_c m w⟩
/-- marks that may be, and rise, from a key on. -/
def riseM : List UInt8 → List LMark → Bool
  | _, [] => true
  | k, m :: l => markB m && Op.bytesLess k m.key && riseM m.key l
def lastM (l : List LMark) : Nat → List UInt8
  | 0 => []
  | j + 1 => (nthG l j).key
def okM (l : List LMark) : Bool := decide ((l.length : Int) ≤ 16) && riseM [] l
def tchkF (l : List LMark) : Int := if okM l then 0 else 240
theorem tcheck_c (l : List LMark) (p : Option Addr) (n c : Nat) (w0 : World) (hn : l.length = n) (hl : n ≤ 9223372036854775807) (hx : Stable (fun _ => False) w0 (GlF p l)) :
    Ret Tryd.prog 33 [.slice p n c] w0 (fun _ => False) fun v _ => v = .int .i64 (tchkF l) := by
  subst hn
  refine enter Tryd.func33 rfl rfl (Wd.begin (fs := [GlF p l]) (by simpa using hx)) (fun a S => ?_)
  simp only [Tryd.ntmps33, List.length_cons, List.length_nil, Nat.reduceAdd, Nat.reduceSub, List.replicate_succ, List.replicate_zero, List.cons_append, List.nil_append] at S
  refine c_seq ?_
  refine c_region ?_
  refine sq S ?_; clear S; intro a S
  refine wl_nil ?_
  refine xtn ?_
  refine c_seq ?_
  refine c_region ?_
  iterate 4 (refine sq S ?_; clear S; intro a S)
  refine wl_nil ?_
  refine xtn ?_
  refine c_seq ?_
  refine c_region ?_
  refine sq S ?_; clear S; intro a S
  refine wl_nil ?_
  refine xtn ?_
  iterate 2 (refine c_seq ?_)
  refine c_region ?_
  iterate 3 (refine sq S ?_; clear S; intro a S)
  refine wl_nil ?_
  refine xtn ?_
  refine c_block ?_
  refine c_forb2 S (fun (k : Nat) (ok : Bool) uu => [(3, .bool ok), (0, str (lastM l k)), (1, uu 6), (5, .int .i64 (k : Nat)), (0, uu 13), (0, uu 14), (0, uu 15), (0, uu 16), (0, uu 17), (0, uu 18), (0, uu 19), (0, uu 20), (0, uu 21), (0, uu 22), (0, uu 23), (0, uu 24), (0, uu 25), (0, uu 26), (0, uu 27), (0, uu 28), (0, uu 29)]) (fun (k : Nat) (ok : Bool) => k ≤ l.length ∧ (ok && riseM (lastM l k) (l.drop k)) = okM l) (fun (k : Nat) (ok : Bool) => l.length - k) (0) (decide ((l.length : Int) ≤ 16)) ?_ S.uu ?_ ?_
  · exact ⟨Nat.zero_le _, rfl⟩
  · first | exact S | exact S.sub _ _
  · clear S; rintro k ok uu a w ⟨hk, hrel⟩ S
    refine c_seq ?_
    refine c_region ?_
    refine sq S ?_; clear S; intro a S
    refine wl_nil ?_
    refine xtn ?_
    refine c_seq ?_
    refine c_cond S (fun h4 => ?_) (fun h4 => ?_)
    · refine c_skip ?_
      refine xtn ?_
      refine c_seq ?_
      refine c_block ?_
      refine c_seq ?_
      have hkl : k < l.length := by simp at h4; omega
      have hK : KLt k l.length := ⟨hkl⟩
      rw [nthG_drop hkl] at hrel
      refine c_region ?_
      iterate 2 (refine sq S ?_; clear S; intro a S)
      refine sa S ?_; clear S; intro b6 a w S
      refine sw S ?_; clear S; intro a w S
      refine wl_nil ?_
      refine xtn ?_
      refine c_seq ?_
      refine c_region ?_
      iterate 2 (refine sq S ?_; clear S; intro a S)
      refine gQ S ?_; clear S; intro a S
      refine gC S ?_; clear S; intro a w S
      iterate 2 (refine sq S ?_; clear S; intro a S)
      iterate 4 (refine gQ S ?_; clear S; intro a S)
      iterate 2 (refine sq S ?_; clear S; intro a S)
      refine wl_nil ?_
      refine xtn ?_
      refine c_region ?_
      iterate 3 (refine sq S ?_; clear S; intro a S)
      refine wl_nil ?_
      refine xbn ?_
      refine xtn ?_
      refine c_region ?_
      iterate 2 (refine sq S ?_; clear S; intro a S)
      refine wl_nil ?_
      refine xtn ?_
      rw [w64 ((k : Int) + 1) (by omega) (by omega)] at S
      refine ⟨k + 1, _, S.uu, ⟨hkl, ?_⟩, S.sub _ _, by omega⟩
      rw [← hrel]
      show (ok && markB (nthG l k) && Op.bytesLess (lastM l k) (nthG l k).key && riseM (nthG l k).key (l.drop (k + 1))) = (ok && (markB (nthG l k) && Op.bytesLess (lastM l k) (nthG l k).key && riseM (nthG l k).key (l.drop (k + 1))))
      simp only [Bool.and_assoc]
    · refine c_exit ?_
      iterate 2 (refine xte ?_)
      refine xbe ?_
      refine xtn ?_
      iterate 2 (refine c_seq ?_)
      rw [List.drop_of_length_le (by simp at h4; omega)] at hrel
      rw [show riseM (lastM l k) [] = true from rfl, Bool.and_true] at hrel
      refine c_region ?_
      iterate 2 (refine sq S ?_; clear S; intro a S)
      refine wl_nil ?_
      refine xtn ?_
      refine c_cond S (fun h9 => ?_) (fun h9 => ?_)
      · refine c_seq ?_
        refine c_region ?_
        refine sq S ?_; clear S; intro a S
        refine wl_nil ?_
        refine xtn ?_
        refine c_ret ?_
        refine xtr ?_
        have h9' : ok = false := by simpa using h9
        refine end1 S (fun _ => ?_)
        rw [tchkF, ← hrel, h9']; rfl
      · refine c_skip ?_
        refine xtn ?_
        refine c_seq ?_
        refine c_region ?_
        refine sq S ?_; clear S; intro a S
        refine wl_nil ?_
        refine xtn ?_
        refine c_ret ?_
        have h9' : ok = true := by simpa using h9
        refine end1 S (fun _ => ?_)
        rw [tchkF, ← hrel, h9']; rfl
instance {l : List LMark} {p : Option Addr} {n c : Nat} {bs fs} [hg : HasG fs p LMark layMark l] [hn : LenN l n] [hk : LeC n 9223372036854775807] : CallV Tryd.prog 33 [.slice p n c] bs fs (.int .i64 (tchkF l)) := ⟨fun w m => tcheck_c l p n c w hn.eq hk.le ((hg.of _ _ m.facts).less fun _ _ h => h.elim)⟩
theorem cmp_less (a b : List UInt8) : decide (Lib.compareBytes a b < 0) = Op.bytesLess a b := by
  induction a generalizing b with
  | nil => cases b <;> simp [Lib.compareBytes, Op.bytesLess]
  | cons x a ih =>
    cases b with
    | nil => simp [Lib.compareBytes, Op.bytesLess]
    | cons y b =>
      rw [Lib.compareBytes, Op.bytesLess]
      by_cases h1 : x < y
      · simp [h1]
      · by_cases h2 : y < x
        · have : ¬ x = y := fun h => by subst h; exact absurd h2 h1
          simp [h1, h2, this]
        · have : x = y := UInt8.le_antisymm (UInt8.not_lt.1 h2) (UInt8.not_lt.1 h1)
          subst this
          simp [h1, ih]
theorem cmp_zero (a b : List UInt8) : decide (Lib.compareBytes a b = 0) = decide (a = b) := by
  induction a generalizing b with
  | nil => cases b <;> simp [Lib.compareBytes]
  | cons x a ih =>
    cases b with
    | nil => simp [Lib.compareBytes]
    | cons y b =>
      rw [Lib.compareBytes]
      by_cases h1 : x < y
      · have : ¬ x = y := fun h => by subst h; exact absurd h1 (UInt8.lt_irrefl _)
        simp [h1, this]
      · by_cases h2 : y < x
        · have : ¬ x = y := fun h => by subst h; exact absurd h2 h1
          simp [h1, h2, this]
        · have : x = y := UInt8.le_antisymm (UInt8.not_lt.1 h2) (UInt8.not_lt.1 h1)
          subst this
          simp [h1, ih]
theorem half_u (i j : Nat) (h : i + j ≤ 1000000000) : (IntKind.u64.wrap (IntKind.i64.wrap ((i : Int) + (j : Int)))).fdiv (2 ^ min 1 IntKind.u64.bits) = (((i + j) / 2 : Nat) : Int) := by
  have e1 : IntKind.u64.wrap ((i : Int) + (j : Int)) = (i : Int) + (j : Int) := by
    unfold IntKind.wrap
    simp only [IntKind.bits, IntKind.signed, Bool.false_and]
    simp
    omega
  rw [w64 _ (by omega) (by omega), e1]
  show ((i : Int) + (j : Int)).fdiv 2 = _
  rw [Int.fdiv_eq_ediv_of_nonneg _ (by omega)]
  omega
theorem key_lt {l : List LMark} (hr : (l.map LMark.key).Pairwise fun a b => Op.bytesLess a b = true) {i j : Nat} (hij : i < j) (hj : j < l.length) : Op.bytesLess (nthG l i).key (nthG l j).key = true := by
  have e1 : (l.map LMark.key)[i]? = some (nthG l i).key := by rw [List.getElem?_map, nthG_get (by omega)]; rfl
  have e2 : (l.map LMark.key)[j]? = some (nthG l j).key := by rw [List.getElem?_map, nthG_get hj]; rfl
  obtain ⟨q1, q2⟩ := List.getElem?_eq_some_iff.1 e1
  obtain ⟨q3, q4⟩ := List.getElem?_eq_some_iff.1 e2
  have := List.pairwise_iff_getElem.1 hr i j q1 q3 hij
  rw [q2, q4] at this; exact this
theorem key_le {l : List LMark} (hr : (l.map LMark.key).Pairwise fun a b => Op.bytesLess a b = true) {m h : Nat} {s : List UInt8} (hs : Op.bytesLess (nthG l h).key s = true) (hm : m ≤ h) (hh : h < l.length) : Op.bytesLess (nthG l m).key s = true := by
  rcases Nat.lt_or_ge m h with h1 | h1
  · exact bl_trans _ _ _ (key_lt hr h1 hh) hs
  · obtain rfl : m = h := by omega
    exact hs
theorem key_ge {l : List LMark} (hr : (l.map LMark.key).Pairwise fun a b => Op.bytesLess a b = true) {m h : Nat} {s : List UInt8} (hs : Op.bytesLess (nthG l h).key s = false) (hm : h ≤ m) (hml : m < l.length) : Op.bytesLess (nthG l m).key s = false := by
  rcases Nat.lt_or_ge h m with h1 | h1
  · cases h2 : Op.bytesLess (nthG l m).key s with
    | false => rfl
    | true => rw [bl_trans _ _ _ (key_lt hr h1 hml) h2] at hs; cases hs
  · obtain rfl : m = h := by omega
    exact hs
theorem riseM_all : ∀ (k : List UInt8) (l : List LMark), riseM k l = true → (∀ m ∈ l, markB m = true ∧ Op.bytesLess k m.key = true) ∧ (l.map LMark.key).Pairwise fun a b => Op.bytesLess a b = true
  | k, [], _ => ⟨nofun, .nil⟩
  | k, m :: l, h => by
    rw [riseM, Bool.and_eq_true, Bool.and_eq_true] at h
    obtain ⟨⟨h1, h2⟩, h3⟩ := h
    obtain ⟨i1, i2⟩ := riseM_all m.key l h3
    refine ⟨fun x hx => ?_, List.pairwise_cons.2 ⟨fun b hb => ?_, i2⟩⟩
    · rcases List.mem_cons.1 hx with rfl | hx
      · exact ⟨h1, h2⟩
      · exact ⟨(i1 x hx).1, bl_trans _ _ _ h2 (i1 x hx).2⟩
    · obtain ⟨x, hx, rfl⟩ := List.mem_map.1 hb
      exact (i1 x hx).2
end Go.Proofs.YtmngicgdgpimlaaDoor
