/- Package tree: marks; what may be; where a key is. -/
import Derived.Test.YtgielmldblopeaaDoorInst
import Derived.Test.YtgielmldblopeaaDoorW6
import Derived.Test.YtgielmldblopeaaDoorShelfP
namespace Go.Proofs.YtgielmldblopeaaDoor
open Go Go.Wk
set_option synthInstance.maxSize 100000
set_option synthInstance.maxHeartbeats 400000
set_option maxRecDepth 100000

structure LMark where
  key : List UInt8
  ver : Int
instance encMark : Enc LMark := ⟨2, fun m => [str m.key, .int .i64 m.ver], fun _ => rfl, fun x u hu => by simp only [List.mem_cons, List.not_mem_nil, or_false] at hu; rcases hu with rfl | rfl <;> rfl⟩
instance layMark : Lay LMark := { encMark with
  dflt := ⟨[], 0⟩
  inn := fun _ _ => True
  mono := fun _ _ _ _ h => h }
instance : SzE LMark 2 := ⟨rfl, by decide⟩
instance {m : LMark} : CellsOf m [str m.key, .int .i64 m.ver] := ⟨rfl⟩
abbrev vMark (m : LMark) : Value := .agg ⟨[str m.key, .int .i64 m.ver]⟩
def markB (m : LMark) : Bool := !decide (m.key = []) && decide ((m.key.length : Int) ≤ 64) && decide (0 ≤ m.ver) && decide (m.ver ≤ 65535)
theorem marked_c (m : LMark) (w0 : World) : Ret Tryd.prog 81 [vMark m] w0 (fun _ => False) fun v _ => v = .bool (markB m) := by
  refine enter Tryd.func81 rfl rfl (Wd.start w0) (fun a S => ?_)
  simp only [Tryd.ntmps81, List.length_cons, List.length_nil, Nat.reduceAdd, Nat.reduceSub, List.replicate_succ, List.replicate_zero, List.cons_append, List.nil_append] at S
  refine c_seq ?_
  refine c_region ?_
  refine sa S ?_; clear S; intro b1 a w S
  refine sq S ?_; clear S; intro a S
  refine wl_nil ?_
  refine xtn ?_
  refine c_seq ?_
  refine c_region ?_
  iterate 4 (refine sq S ?_; clear S; intro a S)
  iterate 4 (refine gQ S ?_; clear S; intro a S)
  iterate 2 (refine sq S ?_; clear S; intro a S)
  iterate 3 (refine gQ S ?_; clear S; intro a S)
  iterate 2 (refine sq S ?_; clear S; intro a S)
  iterate 3 (refine gQ S ?_; clear S; intro a S)
  iterate 2 (refine sq S ?_; clear S; intro a S)
  refine wl_nil ?_
  refine xtn ?_
  refine c_ret ?_
  refine end1 S (fun _ => rfl)
instance {m : LMark} {bs fs} : CallV Tryd.prog 81 [.agg ⟨[str m.key, .int .i64 m.ver]⟩] bs fs (.bool (markB m)) := ⟨fun w _ => marked_c m w⟩
/-- marks that may be, and rise, from a key on. -/
def riseM : List UInt8 → List LMark → Bool
  | _, [] => true
  | k, m :: l => markB m && Op.bytesLess k m.key && riseM m.key l
def lastM (l : List LMark) : Nat → List UInt8
  | 0 => []
  | j + 1 => (nthG l j).key
def okM (l : List LMark) : Bool := decide ((l.length : Int) ≤ 16) && riseM [] l
def tchkF (l : List LMark) : Int := if okM l then 0 else 240
theorem tcheck_c (l : List LMark) (p : Option Addr) (n c : Nat) (w0 : World) (hn : l.length = n) (hl : n ≤ 9223372036854775807) (hx : Stable (fun _ => False) w0 (GlF p l)) :
    Ret Tryd.prog 72 [.slice p n c] w0 (fun _ => False) fun v _ => v = .int .i64 (tchkF l) := by
  subst hn
  refine enter Tryd.func72 rfl rfl (Wd.begin (fs := [GlF p l]) (by simpa using hx)) (fun a S => ?_)
  simp only [Tryd.ntmps72, List.length_cons, List.length_nil, Nat.reduceAdd, Nat.reduceSub, List.replicate_succ, List.replicate_zero, List.cons_append, List.nil_append] at S
  refine c_seq ?_
  refine c_region ?_
  refine sq S ?_; clear S; intro a S
  refine wl_nil ?_
  refine xtn ?_
  refine c_seq ?_
  refine c_region ?_
  iterate 4 (refine sq S ?_; clear S; intro a S)
  refine wl_nil ?_
  refine xtn ?_
  refine c_seq ?_
  refine c_region ?_
  refine sq S ?_; clear S; intro a S
  refine wl_nil ?_
  refine xtn ?_
  iterate 2 (refine c_seq ?_)
  refine c_region ?_
  iterate 3 (refine sq S ?_; clear S; intro a S)
  refine wl_nil ?_
  refine xtn ?_
  refine c_block ?_
  refine c_forb2 S (fun (k : Nat) (ok : Bool) uu => [(3, .bool ok), (0, str (lastM l k)), (1, uu 6), (5, .int .i64 (k : Nat)), (0, uu 13), (0, uu 14), (0, uu 15), (0, uu 16), (0, uu 17), (0, uu 18), (0, uu 19), (0, uu 20), (0, uu 21), (0, uu 22), (0, uu 23), (0, uu 24), (0, uu 25), (0, uu 26), (0, uu 27), (0, uu 28), (0, uu 29)]) (fun (k : Nat) (ok : Bool) => k ≤ l.length ∧ (ok && riseM (lastM l k) (l.drop k)) = okM l) (fun (k : Nat) (ok : Bool) => l.length - k) (0) (decide ((l.length : Int) ≤ 16)) ?_ S.uu ?_ ?_
  · exact ⟨Nat.zero_le _, rfl⟩
  · first | exact S | exact S.sub _ _
  · clear S; rintro k ok uu a w ⟨hk, hrel⟩ S
    refine c_seq ?_
    refine c_region ?_
    refine sq S ?_; clear S; intro a S
    refine wl_nil ?_
    refine xtn ?_
    refine c_seq ?_
    refine c_cond S (fun h4 => ?_) (fun h4 => ?_)
    · refine c_skip ?_
      refine xtn ?_
      refine c_seq ?_
      refine c_block ?_
      refine c_seq ?_
      have hkl : k < l.length := by simp at h4; omega
      have hK : KLt k l.length := ⟨hkl⟩
      rw [nthG_drop hkl] at hrel
      refine c_region ?_
      iterate 2 (refine sq S ?_; clear S; intro a S)
      refine sa S ?_; clear S; intro b6 a w S
      refine sw S ?_; clear S; intro a w S
      refine wl_nil ?_
      refine xtn ?_
      refine c_seq ?_
      refine c_region ?_
      iterate 2 (refine sq S ?_; clear S; intro a S)
      refine gQ S ?_; clear S; intro a S
      refine gC S ?_; clear S; intro a w S
      iterate 2 (refine sq S ?_; clear S; intro a S)
      iterate 4 (refine gQ S ?_; clear S; intro a S)
      iterate 2 (refine sq S ?_; clear S; intro a S)
      refine wl_nil ?_
      refine xtn ?_
      refine c_region ?_
      iterate 3 (refine sq S ?_; clear S; intro a S)
      refine wl_nil ?_
      refine xbn ?_
      refine xtn ?_
      refine c_region ?_
      iterate 2 (refine sq S ?_; clear S; intro a S)
      refine wl_nil ?_
      refine xtn ?_
      rw [w64 ((k : Int) + 1) (by omega) (by omega)] at S
      refine ⟨k + 1, _, S.uu, ⟨hkl, ?_⟩, S.sub _ _, by omega⟩
      rw [← hrel]
      show (ok && markB (nthG l k) && Op.bytesLess (lastM l k) (nthG l k).key && riseM (nthG l k).key (l.drop (k + 1))) = (ok && (markB (nthG l k) && Op.bytesLess (lastM l k) (nthG l k).key && riseM (nthG l k).key (l.drop (k + 1))))
      simp only [Bool.and_assoc]
    · refine c_exit ?_
      iterate 2 (refine xte ?_)
      refine xbe ?_
      refine xtn ?_
      iterate 2 (refine c_seq ?_)
      rw [List.drop_of_length_le (by simp at h4; omega)] at hrel
      rw [show riseM (lastM l k) [] = true from rfl, Bool.and_true] at hrel
      refine c_region ?_
      iterate 2 (refine sq S ?_; clear S; intro a S)
      refine wl_nil ?_
      refine xtn ?_
      refine c_cond S (fun h9 => ?_) (fun h9 => ?_)
      · refine c_seq ?_
        refine c_region ?_
        refine sq S ?_; clear S; intro a S
        refine wl_nil ?_
        refine xtn ?_
        refine c_ret ?_
        refine xtr ?_
        have h9' : ok = false := by simpa using h9
        refine end1 S (fun _ => ?_)
        rw [tchkF, ← hrel, h9']; rfl
      · refine c_skip ?_
        refine xtn ?_
        refine c_seq ?_
        refine c_region ?_
        refine sq S ?_; clear S; intro a S
        refine wl_nil ?_
        refine xtn ?_
        refine c_ret ?_
        have h9' : ok = true := by simpa using h9
        refine end1 S (fun _ => ?_)
        rw [tchkF, ← hrel, h9']; rfl
instance {l : List LMark} {p : Option Addr} {n c : Nat} {bs fs} [hg : HasG fs p LMark layMark l] [hn : LenN l n] [hk : LeC n 9223372036854775807] : CallV Tryd.prog 72 [.slice p n c] bs fs (.int .i64 (tchkF l)) := ⟨fun w m => tcheck_c l p n c w hn.eq hk.le ((hg.of _ _ m.facts).less fun _ _ h => h.elim)⟩
theorem cmp_less (a b : List UInt8) : decide (Lib.compareBytes a b < 0) = Op.bytesLess a b := by
  induction a generalizing b with
  | nil => cases b <;> simp [Lib.compareBytes, Op.bytesLess]
  | cons x a ih =>
    cases b with
    | nil => simp [Lib.compareBytes, Op.bytesLess]
    | cons y b =>
      rw [Lib.compareBytes, Op.bytesLess]
      by_cases h1 : x < y
      · simp [h1]
      · by_cases h2 : y < x
        · have : ¬ x = y := fun h => by subst h; exact absurd h2 h1
          simp [h1, h2, this]
        · have : x = y := UInt8.le_antisymm (UInt8.not_lt.1 h2) (UInt8.not_lt.1 h1)
          subst this
          simp [h1, ih]
theorem cmp_zero (a b : List UInt8) : decide (Lib.compareBytes a b = 0) = decide (a = b) := by
  induction a generalizing b with
  | nil => cases b <;> simp [Lib.compareBytes]
  | cons x a ih =>
    cases b with
    | nil => simp [Lib.compareBytes]
    | cons y b =>
      rw [Lib.compareBytes]
      by_cases h1 : x < y
      · have : ¬ x = y := fun h => by subst h; exact absurd h1 (UInt8.lt_irrefl _)
        simp [h1, this]
      · by_cases h2 : y < x
        · have : ¬ x = y := fun h => by subst h; exact absurd h2 h1
          simp [h1, h2, this]
        · have : x = y := UInt8.le_antisymm (UInt8.not_lt.1 h2) (UInt8.not_lt.1 h1)
          subst this
          simp [h1, ih]
theorem compare_c (a b : List UInt8) (w0 : World) : Ret Tryd.prog 108 [str a, str b] w0 (fun _ => False) fun v _ => v = .int .i64 (Lib.compareBytes a b) := by
  refine Calls.mono (Any.strings_Compare Tryd.lays106 ⟨a.toArray⟩ ⟨b.toArray⟩ w0) ?_
  rintro e w' ⟨rfl, rfl⟩
  exact ⟨_, rfl, Agree.refl _ _, rfl⟩
instance {a b : List UInt8} {bs fs} : CallV Tryd.prog 108 [str a, str b] bs fs (.int .i64 (Lib.compareBytes a b)) := ⟨fun w _ => compare_c a b w⟩
theorem find1_c (m : LMark) (s : List UInt8) (w0 : World) : Ret Tryd.prog 107 [vMark m, str s] w0 (fun _ => False) fun v _ => v = .int .i64 (Lib.compareBytes m.key s) := by
  refine enter Tryd.func107 rfl rfl (Wd.start w0) (fun a S => ?_)
  simp only [Tryd.ntmps107, List.length_cons, List.length_nil, Nat.reduceAdd, Nat.reduceSub, List.replicate_succ, List.replicate_zero, List.cons_append, List.nil_append] at S
  refine c_seq ?_
  refine c_region ?_
  refine sa S ?_; clear S; intro b2 a w S
  refine sq S ?_; clear S; intro a S
  refine wl_nil ?_
  refine xtn ?_
  refine c_seq ?_
  refine c_region ?_
  iterate 3 (refine sq S ?_; clear S; intro a S)
  refine sc S ?_; clear S; intro a w S
  refine sq S ?_; clear S; intro a S
  refine wl_nil ?_
  refine xtn ?_
  refine c_ret ?_
  refine end1 S (fun _ => rfl)
instance {m : LMark} {s : List UInt8} {bs fs} : CallV Tryd.prog 107 [.agg ⟨[str m.key, .int .i64 m.ver]⟩, str s] bs fs (.int .i64 (Lib.compareBytes m.key s)) := ⟨fun w _ => find1_c m s w⟩
theorem half_u (i j : Nat) (h : i + j ≤ 1000000000) : (IntKind.u64.wrap (IntKind.i64.wrap ((i : Int) + (j : Int)))).fdiv (2 ^ min 1 IntKind.u64.bits) = (((i + j) / 2 : Nat) : Int) := by
  have e1 : IntKind.u64.wrap ((i : Int) + (j : Int)) = (i : Int) + (j : Int) := by
    unfold IntKind.wrap
    simp only [IntKind.bits, IntKind.signed, Bool.false_and]
    simp
    omega
  rw [w64 _ (by omega) (by omega), e1]
  show ((i : Int) + (j : Int)).fdiv 2 = _
  rw [Int.fdiv_eq_ediv_of_nonneg _ (by omega)]
  omega
theorem key_lt {l : List LMark} (hr : (l.map LMark.key).Pairwise fun a b => Op.bytesLess a b = true) {i j : Nat} (hij : i < j) (hj : j < l.length) : Op.bytesLess (nthG l i).key (nthG l j).key = true := by
  have e1 : (l.map LMark.key)[i]? = some (nthG l i).key := by rw [List.getElem?_map, nthG_get (by omega)]; rfl
  have e2 : (l.map LMark.key)[j]? = some (nthG l j).key := by rw [List.getElem?_map, nthG_get hj]; rfl
  obtain ⟨q1, q2⟩ := List.getElem?_eq_some_iff.1 e1
  obtain ⟨q3, q4⟩ := List.getElem?_eq_some_iff.1 e2
  have := List.pairwise_iff_getElem.1 hr i j q1 q3 hij
  rw [q2, q4] at this; exact this
theorem key_le {l : List LMark} (hr : (l.map LMark.key).Pairwise fun a b => Op.bytesLess a b = true) {m h : Nat} {s : List UInt8} (hs : Op.bytesLess (nthG l h).key s = true) (hm : m ≤ h) (hh : h < l.length) : Op.bytesLess (nthG l m).key s = true := by
  rcases Nat.lt_or_ge m h with h1 | h1
  · exact bl_trans _ _ _ (key_lt hr h1 hh) hs
  · obtain rfl : m = h := by omega
    exact hs
theorem key_ge {l : List LMark} (hr : (l.map LMark.key).Pairwise fun a b => Op.bytesLess a b = true) {m h : Nat} {s : List UInt8} (hs : Op.bytesLess (nthG l h).key s = false) (hm : h ≤ m) (hml : m < l.length) : Op.bytesLess (nthG l m).key s = false := by
  rcases Nat.lt_or_ge h m with h1 | h1
  · cases h2 : Op.bytesLess (nthG l m).key s with
    | false => rfl
    | true => rw [bl_trans _ _ _ (key_lt hr h1 hml) h2] at hs; cases hs
  · obtain rfl : m = h := by omega
    exact hs
theorem bsearch_c (l : List LMark) (p : Option Addr) (c : Nat) (s : List UInt8) (w0 : World) (hl : l.length ≤ 1000000) (hx : Stable (fun _ => False) w0 (GlF p l)) (hr : (l.map LMark.key).Pairwise fun a b => Op.bytesLess a b = true) :
    Ret Tryd.prog 106 [.slice p l.length c, str s, .func (.func 107) #[] #[]] w0 (fun _ => False) fun v _ => ∃ i : Nat, v = .tuple ⟨[.int .i64 (i : Nat), .bool (decide (s ∈ l.map LMark.key))]⟩ ∧ (s ∈ l.map LMark.key → i < l.length ∧ (nthG l i).key = s) := by
  refine enter Tryd.func106 rfl rfl (Wd.begin (fs := [GlF p l]) (by simpa using hx)) (fun a S => ?_)
  simp only [Tryd.ntmps106, List.length_cons, List.length_nil, Nat.reduceAdd, Nat.reduceSub, List.replicate_succ, List.replicate_zero, List.cons_append, List.nil_append] at S
  refine c_seq ?_
  refine c_region ?_
  iterate 2 (refine sq S ?_; clear S; intro a S)
  refine wl_nil ?_
  refine xtn ?_
  refine c_seq ?_
  refine c_region ?_
  iterate 3 (refine sq S ?_; clear S; intro a S)
  refine wl_nil ?_
  refine xtn ?_
  refine c_seq ?_
  refine c_region ?_
  iterate 3 (refine sq S ?_; clear S; intro a S)
  refine wl_nil ?_
  refine xtn ?_
  refine c_seq ?_
  refine c_block ?_
  refine c_forb2 S (fun (i : Nat) (j : Nat) uu => [(9, .int .i64 (i : Nat)), (0, .int .i64 (j : Nat)), (0, uu 11), (3, uu 15), (0, uu 16), (0, uu 17), (0, uu 18), (0, uu 19), (0, uu 20), (0, uu 21), (0, uu 22), (0, uu 23), (0, uu 24), (0, uu 25), (0, uu 26), (0, uu 27), (0, uu 28), (0, uu 29), (0, uu 30), (0, uu 31), (0, uu 32), (0, uu 33), (0, uu 34)]) (fun (i : Nat) (j : Nat) => i ≤ j ∧ j ≤ l.length ∧ (∀ m, m < i → Op.bytesLess (nthG l m).key s = true) ∧ ∀ m, j ≤ m → m < l.length → Op.bytesLess (nthG l m).key s = false) (fun (i : Nat) (j : Nat) => j - i) (0) (l.length) ?_ S.uu ?_ ?_
  · exact ⟨Nat.zero_le _, Nat.le_refl _, fun m h => by omega, fun m h h' => by omega⟩
  · first | exact S | exact S.sub _ _
  · clear S; rintro i j uu a w ⟨hij, hjl, hlo, hhi⟩ S
    iterate 2 (refine c_seq ?_)
    refine c_region ?_
    iterate 3 (refine sq S ?_; clear S; intro a S)
    refine wl_nil ?_
    refine xtn ?_
    refine c_cond S (fun h3 => ?_) (fun h3 => ?_)
    · refine c_skip ?_
      refine xtn ?_
      refine c_block ?_
      refine c_seq ?_
      refine c_region ?_
      iterate 5 (refine sq S ?_; clear S; intro a S)
      rw [half_u i j (by omega)] at S
      refine sq S ?_; clear S; intro a S
      rw [show IntKind.i64.wrap (((i + j) / 2 : Nat) : Int) = (((i + j) / 2 : Nat) : Int) from w64 _ (by omega) (by omega)] at S
      have hKh : KLt ((i + j) / 2) l.length := ⟨by simp at h3; omega⟩
      refine sq S ?_; clear S; intro a S
      refine wl_nil ?_
      refine xtn ?_
      refine c_seq ?_
      refine c_region ?_
      iterate 6 (refine sq S ?_; clear S; intro a S)
      refine sr S (find1_c (nthG l ((i + j) / 2)) s _) ?_; clear S; rintro _ a w rfl S
      rw [show (Lib.compareBytes (nthG l ((i + j) / 2)).key s) = Lib.compareBytes (nthG l ((i + j) / 2)).key s from rfl] at S
      refine sq S ?_; clear S; intro a S
      rw [cmp_less] at S
      refine wl_nil ?_
      refine xtn ?_
      refine c_cond S (fun h5 => ?_) (fun h5 => ?_)
      · refine c_region ?_
        iterate 2 (refine sq S ?_; clear S; intro a S)
        rw [show IntKind.i64.wrap ((((i + j) / 2 : Nat) : Int) + 1) = (((i + j) / 2 + 1 : Nat) : Int) from w64 _ (by omega) (by omega)] at S
        refine sq S ?_; clear S; intro a S
        refine wl_nil ?_
        refine xbn ?_
        refine xtn ?_
        have h3' : i < j := by simp at h3; omega
        refine ⟨(i + j) / 2 + 1, j, S.uu, ⟨by omega, hjl, fun m hm => ?_, hhi⟩, S.sub _ _, by omega⟩
        exact key_le hr h5 (by omega) (by omega)
      · refine c_region ?_
        iterate 2 (refine sq S ?_; clear S; intro a S)
        refine wl_nil ?_
        refine xbn ?_
        refine xtn ?_
        have h3' : i < j := by simp at h3; omega
        refine ⟨i, (i + j) / 2, S.uu, ⟨by omega, by omega, hlo, fun m hm hml => ?_⟩, S.sub _ _, by omega⟩
        exact key_ge hr h5 hm hml
    · refine c_exit ?_
      iterate 2 (refine xte ?_)
      refine xbe ?_
      refine xtn ?_
      refine c_seq ?_
      refine c_region ?_
      iterate 5 (refine sq S ?_; clear S; intro a S)
      iterate 6 (refine gQ S ?_; clear S; intro a S)
      refine gC S ?_; clear S; intro a w S
      refine gQ S ?_; clear S; intro a S
      iterate 3 (refine sq S ?_; clear S; intro a S)
      refine wl_nil ?_
      refine xtn ?_
      refine c_ret ?_
      have hij2 : i = j := by simp at h3; omega
      subst hij2
      have key : (decide ((i : Int) < (l.length : Int)) && decide (Lib.compareBytes (nthG l i).key s = 0)) = decide (s ∈ l.map LMark.key) ∧ (s ∈ l.map LMark.key → i < l.length ∧ (nthG l i).key = s) := by
        have hmem : s ∈ l.map LMark.key → i < l.length ∧ (nthG l i).key = s := fun hm => by
          obtain ⟨m, hml, rfl⟩ := List.mem_map.1 hm
          obtain ⟨a, ha⟩ := List.getElem?_of_mem hml
          have hal : a < l.length := (List.getElem?_eq_some_iff.1 ha).1
          rw [nthG_get hal] at ha
          obtain rfl := Option.some.inj ha
          have h1 : i ≤ a := by
            rcases Nat.lt_or_ge a i with h | h
            · have := hlo a h; rw [bl_irrefl] at this; cases this
            · exact h
          rcases Nat.lt_or_ge i a with h | h
          · have h2 := key_lt hr h hal
            rw [hhi i (Nat.le_refl _) (by omega)] at h2; cases h2
          · obtain rfl : i = a := by omega
            exact ⟨hal, rfl⟩
        refine ⟨?_, hmem⟩
        rw [cmp_zero, Bool.eq_iff_iff, Bool.and_eq_true, decide_eq_true_iff, decide_eq_true_iff, decide_eq_true_iff]
        constructor
        · rintro ⟨h1, h2⟩
          exact List.mem_map.2 ⟨_, nthG_mem (show i < l.length by omega), h2⟩
        · intro h
          obtain ⟨h1, h2⟩ := hmem h
          exact ⟨by omega, h2⟩
      refine end2 S (fun _ => ?_)
      exact ⟨i, by rw [key.1], key.2⟩
theorem riseM_all : ∀ (k : List UInt8) (l : List LMark), riseM k l = true → (∀ m ∈ l, markB m = true ∧ Op.bytesLess k m.key = true) ∧ (l.map LMark.key).Pairwise fun a b => Op.bytesLess a b = true
  | k, [], _ => ⟨nofun, .nil⟩
  | k, m :: l, h => by
    rw [riseM, Bool.and_eq_true, Bool.and_eq_true] at h
    obtain ⟨⟨h1, h2⟩, h3⟩ := h
    obtain ⟨i1, i2⟩ := riseM_all m.key l h3
    refine ⟨fun x hx => ?_, List.pairwise_cons.2 ⟨fun b hb => ?_, i2⟩⟩
    · rcases List.mem_cons.1 hx with rfl | hx
      · exact ⟨h1, h2⟩
      · exact ⟨(i1 x hx).1, bl_trans _ _ _ h2 (i1 x hx).2⟩
    · obtain ⟨x, hx, rfl⟩ := List.mem_map.1 hb
      exact (i1 x hx).2
theorem tfind_c (l : List LMark) (p : Option Addr) (c : Nat) (s : List UInt8) (w0 : World) (hl : l.length ≤ 1000000) (hx : Stable (fun _ => False) w0 (GlF p l)) (hr : (l.map LMark.key).Pairwise fun a b => Op.bytesLess a b = true) :
    Ret Tryd.prog 73 [.slice p l.length c, str s] w0 (fun _ => False) fun v _ => ∃ i : Nat, v = .tuple ⟨[.int .i64 (i : Nat), .bool (decide (s ∈ l.map LMark.key))]⟩ ∧ (s ∈ l.map LMark.key → i < l.length ∧ (nthG l i).key = s) := by
  refine enter Tryd.func73 rfl rfl (Wd.begin (fs := [GlF p l]) (by simpa using hx)) (fun a S => ?_)
  simp only [Tryd.ntmps73, List.length_cons, List.length_nil, Nat.reduceAdd, Nat.reduceSub, List.replicate_succ, List.replicate_zero, List.cons_append, List.nil_append] at S
  refine c_seq ?_
  refine c_region ?_
  iterate 2 (refine sq S ?_; clear S; intro a S)
  refine wl_nil ?_
  refine xtn ?_
  refine c_seq ?_
  refine c_region ?_
  iterate 2 (refine sq S ?_; clear S; intro a S)
  refine sr S (bsearch_c l p c s _ hl (S.gl0 p) hr) ?_; clear S; rintro _ a w ⟨i, rfl, hi⟩ S
  iterate 4 (refine sq S ?_; clear S; intro a S)
  refine wl_nil ?_
  refine xtn ?_
  refine c_ret ?_
  refine end2 S (fun _ => ?_)
  exact ⟨i, rfl, hi⟩
end Go.Proofs.YtgielmldblopeaaDoor
