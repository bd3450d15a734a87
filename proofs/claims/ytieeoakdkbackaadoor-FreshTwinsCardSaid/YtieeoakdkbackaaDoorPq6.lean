/- 6: a part of this claim's texts, joined: TreeA TreeB PlainTree TreeC TreeD TreeE TreeF LaidA PlainTreeB TreeG TreeH FreshS. -/
import Derived.Test.YtieeoakdkbackaaDoorPq5
import Derived.LaidLaws
import Derived.LaidHandle
import Derived.Stop.LaidErr
import Derived.Deep.DeepLaidRun
import Derived.Lib.ItoaLen
import Derived.Laws.StructEq
/- Package tree: marks; what may be; where a key is. -/
namespace Go.Proofs.YtieeoakdkbackaaDoor
open Go Go.Wk
set_option synthInstance.maxSize 100000
set_option synthInstance.maxHeartbeats 400000
set_option maxRecDepth 100000

structure LMark where
  key : List UInt8
  ver : Int
instance encMark : Enc LMark := ⟨2, fun m => [str m.key, .int .i64 m.ver], fun _ => rfl, fun x u hu => by simp only [List.mem_cons, List.not_mem_nil, or_false] at hu; rcases hu with rfl | rfl <;> rfl⟩
instance layMark : Lay LMark := { encMark with
  dflt := ⟨[], 0⟩
  inn := fun _ _ => True
  mono := fun _ _ _ _ h => h }
instance : SzE LMark 2 := ⟨rfl, by decide⟩
instance {m : LMark} : CellsOf m [str m.key, .int .i64 m.ver] := ⟨rfl⟩
abbrev vMark (m : LMark) : Value := .agg ⟨[str m.key, .int .i64 m.ver]⟩
def markB (m : LMark) : Bool := !decide (m.key = []) && decide ((m.key.length : Int) ≤ 64) && decide (0 ≤ m.ver) && decide (m.ver ≤ 65535)
theorem marked_c (m : LMark) (w0 : World) : Ret Tryd.prog 101 [vMark m] w0 (fun _ => False) fun v _ => v = .bool (markB m) := by
  refine enter Tryd.func101 rfl rfl (Wd.start w0) (fun a S => ?_)
  simp only [Tryd.ntmps101, List.length_cons, List.length_nil, Nat.reduceAdd, Nat.reduceSub, List.replicate_succ, List.replicate_zero, List.cons_append, List.nil_append] at S
  refine c_seq ?_
  refine c_region ?_
  refine sa S ?_; clear S; intro b1 a w S
  refine sq S ?_; clear S; intro a S
  refine wl_nil ?_
  refine xtn ?_
  refine c_seq ?_
  refine c_region ?_
  iterate 4 (refine sq S ?_; clear S; intro a S)
  iterate 4 (refine gQ S ?_; clear S; intro a S)
  iterate 2 (refine sq S ?_; clear S; intro a S)
  iterate 3 (refine gQ S ?_; clear S; intro a S)
  iterate 2 (refine sq S ?_; clear S; intro a S)
  iterate 3 (refine gQ S ?_; clear S; intro a S)
  iterate 2 (refine sq S ?_; clear S; intro a S)
  refine wl_nil ?_
  refine xtn ?_
  refine c_ret ?_
  refine end1 S (fun _ => rfl)
instance {m : LMark} {bs fs} : CallV Tryd.prog 101 [.agg ⟨[str m.key, .int .i64 m.ver]⟩] bs fs (.bool (markB m)) := ⟨fun w _ => marked_c m w⟩
/-- marks that may be, and rise, from a key on. -/
def riseM : List UInt8 → List LMark → Bool
  | _, [] => true
  | k, m :: l => markB m && Op.bytesLess k m.key && riseM m.key l
def lastM (l : List LMark) : Nat → List UInt8
  | 0 => []
  | j + 1 => (nthG l j).key
def okM (l : List LMark) : Bool := decide ((l.length : Int) ≤ 16) && riseM [] l
def tchkF (l : List LMark) : Int := if okM l then 0 else 240
theorem tcheck_c (l : List LMark) (p : Option Addr) (n c : Nat) (w0 : World) (hn : l.length = n) (hl : n ≤ 9223372036854775807) (hx : Stable (fun _ => False) w0 (GlF p l)) :
    Ret Tryd.prog 69 [.slice p n c] w0 (fun _ => False) fun v _ => v = .int .i64 (tchkF l) := by
  subst hn
  refine enter Tryd.func69 rfl rfl (Wd.begin (fs := [GlF p l]) (by simpa using hx)) (fun a S => ?_)
  simp only [Tryd.ntmps69, List.length_cons, List.length_nil, Nat.reduceAdd, Nat.reduceSub, List.replicate_succ, List.replicate_zero, List.cons_append, List.nil_append] at S
  refine c_seq ?_
  refine c_region ?_
  refine sq S ?_; clear S; intro a S
  refine wl_nil ?_
  refine xtn ?_
  refine c_seq ?_
  refine c_region ?_
  iterate 4 (refine sq S ?_; clear S; intro a S)
  refine wl_nil ?_
  refine xtn ?_
  refine c_seq ?_
  refine c_region ?_
  refine sq S ?_; clear S; intro a S
  refine wl_nil ?_
  refine xtn ?_
  iterate 2 (refine c_seq ?_)
  refine c_region ?_
  iterate 3 (refine sq S ?_; clear S; intro a S)
  refine wl_nil ?_
  refine xtn ?_
  refine c_block ?_
  refine c_forb2 S (fun (k : Nat) (ok : Bool) uu => [(3, .bool ok), (0, str (lastM l k)), (1, uu 6), (5, .int .i64 (k : Nat)), (0, uu 13), (0, uu 14), (0, uu 15), (0, uu 16), (0, uu 17), (0, uu 18), (0, uu 19), (0, uu 20), (0, uu 21), (0, uu 22), (0, uu 23), (0, uu 24), (0, uu 25), (0, uu 26), (0, uu 27), (0, uu 28), (0, uu 29)]) (fun (k : Nat) (ok : Bool) => k ≤ l.length ∧ (ok && riseM (lastM l k) (l.drop k)) = okM l) (fun (k : Nat) (ok : Bool) => l.length - k) (0) (decide ((l.length : Int) ≤ 16)) ?_ S.uu ?_ ?_
  · exact ⟨Nat.zero_le _, rfl⟩
  · first | exact S | exact S.sub _ _
  · clear S; rintro k ok uu a w ⟨hk, hrel⟩ S
    refine c_seq ?_
    refine c_region ?_
    refine sq S ?_; clear S; intro a S
    refine wl_nil ?_
    refine xtn ?_
    refine c_seq ?_
    refine c_cond S (fun h4 => ?_) (fun h4 => ?_)
    · refine c_skip ?_
      refine xtn ?_
      refine c_seq ?_
      refine c_block ?_
      refine c_seq ?_
      have hkl : k < l.length := by simp at h4; omega
      have hK : KLt k l.length := ⟨hkl⟩
      rw [nthG_drop hkl] at hrel
      refine c_region ?_
      iterate 2 (refine sq S ?_; clear S; intro a S)
      refine sa S ?_; clear S; intro b6 a w S
      refine sw S ?_; clear S; intro a w S
      refine wl_nil ?_
      refine xtn ?_
      refine c_seq ?_
      refine c_region ?_
      iterate 2 (refine sq S ?_; clear S; intro a S)
      refine gQ S ?_; clear S; intro a S
      refine gC S ?_; clear S; intro a w S
      iterate 2 (refine sq S ?_; clear S; intro a S)
      iterate 4 (refine gQ S ?_; clear S; intro a S)
      iterate 2 (refine sq S ?_; clear S; intro a S)
      refine wl_nil ?_
      refine xtn ?_
      refine c_region ?_
      iterate 3 (refine sq S ?_; clear S; intro a S)
      refine wl_nil ?_
      refine xbn ?_
      refine xtn ?_
      refine c_region ?_
      iterate 2 (refine sq S ?_; clear S; intro a S)
      refine wl_nil ?_
      refine xtn ?_
      rw [w64 ((k : Int) + 1) (by omega) (by omega)] at S
      refine ⟨k + 1, _, S.uu, ⟨hkl, ?_⟩, S.sub _ _, by omega⟩
      rw [← hrel]
      show (ok && markB (nthG l k) && Op.bytesLess (lastM l k) (nthG l k).key && riseM (nthG l k).key (l.drop (k + 1))) = (ok && (markB (nthG l k) && Op.bytesLess (lastM l k) (nthG l k).key && riseM (nthG l k).key (l.drop (k + 1))))
      simp only [Bool.and_assoc]
    · refine c_exit ?_
      iterate 2 (refine xte ?_)
      refine xbe ?_
      refine xtn ?_
      iterate 2 (refine c_seq ?_)
      rw [List.drop_of_length_le (by simp at h4; omega)] at hrel
      rw [show riseM (lastM l k) [] = true from rfl, Bool.and_true] at hrel
      refine c_region ?_
      iterate 2 (refine sq S ?_; clear S; intro a S)
      refine wl_nil ?_
      refine xtn ?_
      refine c_cond S (fun h9 => ?_) (fun h9 => ?_)
      · refine c_seq ?_
        refine c_region ?_
        refine sq S ?_; clear S; intro a S
        refine wl_nil ?_
        refine xtn ?_
        refine c_ret ?_
        refine xtr ?_
        have h9' : ok = false := by simpa using h9
        refine end1 S (fun _ => ?_)
        rw [tchkF, ← hrel, h9']; rfl
      · refine c_skip ?_
        refine xtn ?_
        refine c_seq ?_
        refine c_region ?_
        refine sq S ?_; clear S; intro a S
        refine wl_nil ?_
        refine xtn ?_
        refine c_ret ?_
        have h9' : ok = true := by simpa using h9
        refine end1 S (fun _ => ?_)
        rw [tchkF, ← hrel, h9']; rfl
instance {l : List LMark} {p : Option Addr} {n c : Nat} {bs fs} [hg : HasG fs p LMark layMark l] [hn : LenN l n] [hk : LeC n 9223372036854775807] : CallV Tryd.prog 69 [.slice p n c] bs fs (.int .i64 (tchkF l)) := ⟨fun w m => tcheck_c l p n c w hn.eq hk.le ((hg.of _ _ m.facts).less fun _ _ h => h.elim)⟩
theorem cmp_less (a b : List UInt8) : decide (Lib.compareBytes a b < 0) = Op.bytesLess a b := by
  induction a generalizing b with
  | nil => cases b <;> simp [Lib.compareBytes, Op.bytesLess]
  | cons x a ih =>
    cases b with
    | nil => simp [Lib.compareBytes, Op.bytesLess]
    | cons y b =>
      rw [Lib.compareBytes, Op.bytesLess]
      by_cases h1 : x < y
      · simp [h1]
      · by_cases h2 : y < x
        · have : ¬ x = y := fun h => by subst h; exact absurd h2 h1
          simp [h1, h2, this]
        · have : x = y := UInt8.le_antisymm (UInt8.not_lt.1 h2) (UInt8.not_lt.1 h1)
          subst this
          simp [h1, ih]
theorem cmp_zero (a b : List UInt8) : decide (Lib.compareBytes a b = 0) = decide (a = b) := by
  induction a generalizing b with
  | nil => cases b <;> simp [Lib.compareBytes]
  | cons x a ih =>
    cases b with
    | nil => simp [Lib.compareBytes]
    | cons y b =>
      rw [Lib.compareBytes]
      by_cases h1 : x < y
      · have : ¬ x = y := fun h => by subst h; exact absurd h1 (UInt8.lt_irrefl _)
        simp [h1, this]
      · by_cases h2 : y < x
        · have : ¬ x = y := fun h => by subst h; exact absurd h2 h1
          simp [h1, h2, this]
        · have : x = y := UInt8.le_antisymm (UInt8.not_lt.1 h2) (UInt8.not_lt.1 h1)
          subst this
          simp [h1, ih]
theorem compare_c (a b : List UInt8) (w0 : World) : Ret Tryd.prog 106 [str a, str b] w0 (fun _ => False) fun v _ => v = .int .i64 (Lib.compareBytes a b) := by
  refine Calls.mono (Any.strings_Compare Tryd.lays106 ⟨a.toArray⟩ ⟨b.toArray⟩ w0) ?_
  rintro e w' ⟨rfl, rfl⟩
  exact ⟨_, rfl, Agree.refl _ _, rfl⟩
instance {a b : List UInt8} {bs fs} : CallV Tryd.prog 106 [str a, str b] bs fs (.int .i64 (Lib.compareBytes a b)) := ⟨fun w _ => compare_c a b w⟩
theorem find1_c (m : LMark) (s : List UInt8) (w0 : World) : Ret Tryd.prog 105 [vMark m, str s] w0 (fun _ => False) fun v _ => v = .int .i64 (Lib.compareBytes m.key s) := by
  refine enter Tryd.func105 rfl rfl (Wd.start w0) (fun a S => ?_)
  simp only [Tryd.ntmps105, List.length_cons, List.length_nil, Nat.reduceAdd, Nat.reduceSub, List.replicate_succ, List.replicate_zero, List.cons_append, List.nil_append] at S
  refine c_seq ?_
  refine c_region ?_
  refine sa S ?_; clear S; intro b2 a w S
  refine sq S ?_; clear S; intro a S
  refine wl_nil ?_
  refine xtn ?_
  refine c_seq ?_
  refine c_region ?_
  iterate 3 (refine sq S ?_; clear S; intro a S)
  refine sc S ?_; clear S; intro a w S
  refine sq S ?_; clear S; intro a S
  refine wl_nil ?_
  refine xtn ?_
  refine c_ret ?_
  refine end1 S (fun _ => rfl)
instance {m : LMark} {s : List UInt8} {bs fs} : CallV Tryd.prog 105 [.agg ⟨[str m.key, .int .i64 m.ver]⟩, str s] bs fs (.int .i64 (Lib.compareBytes m.key s)) := ⟨fun w _ => find1_c m s w⟩
theorem half_u (i j : Nat) (h : i + j ≤ 1000000000) : (IntKind.u64.wrap (IntKind.i64.wrap ((i : Int) + (j : Int)))).fdiv (2 ^ min 1 IntKind.u64.bits) = (((i + j) / 2 : Nat) : Int) := by
  have e1 : IntKind.u64.wrap ((i : Int) + (j : Int)) = (i : Int) + (j : Int) := by
    unfold IntKind.wrap
    simp only [IntKind.bits, IntKind.signed, Bool.false_and]
    simp
    omega
  rw [w64 _ (by omega) (by omega), e1]
  show ((i : Int) + (j : Int)).fdiv 2 = _
  rw [Int.fdiv_eq_ediv_of_nonneg _ (by omega)]
  omega
theorem key_lt {l : List LMark} (hr : (l.map LMark.key).Pairwise fun a b => Op.bytesLess a b = true) {i j : Nat} (hij : i < j) (hj : j < l.length) : Op.bytesLess (nthG l i).key (nthG l j).key = true := by
  have e1 : (l.map LMark.key)[i]? = some (nthG l i).key := by rw [List.getElem?_map, nthG_get (by omega)]; rfl
  have e2 : (l.map LMark.key)[j]? = some (nthG l j).key := by rw [List.getElem?_map, nthG_get hj]; rfl
  obtain ⟨q1, q2⟩ := List.getElem?_eq_some_iff.1 e1
  obtain ⟨q3, q4⟩ := List.getElem?_eq_some_iff.1 e2
  have := List.pairwise_iff_getElem.1 hr i j q1 q3 hij
  rw [q2, q4] at this; exact this
theorem key_le {l : List LMark} (hr : (l.map LMark.key).Pairwise fun a b => Op.bytesLess a b = true) {m h : Nat} {s : List UInt8} (hs : Op.bytesLess (nthG l h).key s = true) (hm : m ≤ h) (hh : h < l.length) : Op.bytesLess (nthG l m).key s = true := by
  rcases Nat.lt_or_ge m h with h1 | h1
  · exact bl_trans _ _ _ (key_lt hr h1 hh) hs
  · obtain rfl : m = h := by omega
    exact hs
theorem key_ge {l : List LMark} (hr : (l.map LMark.key).Pairwise fun a b => Op.bytesLess a b = true) {m h : Nat} {s : List UInt8} (hs : Op.bytesLess (nthG l h).key s = false) (hm : h ≤ m) (hml : m < l.length) : Op.bytesLess (nthG l m).key s = false := by
  rcases Nat.lt_or_ge h m with h1 | h1
  · cases h2 : Op.bytesLess (nthG l m).key s with
    | false => rfl
    | true => rw [bl_trans _ _ _ (key_lt hr h1 hml) h2] at hs; cases hs
  · obtain rfl : m = h := by omega
    exact hs
theorem bsearch_c (l : List LMark) (p : Option Addr) (c : Nat) (s : List UInt8) (w0 : World) (hl : l.length ≤ 1000000) (hx : Stable (fun _ => False) w0 (GlF p l)) (hr : (l.map LMark.key).Pairwise fun a b => Op.bytesLess a b = true) :
    Ret Tryd.prog 104 [.slice p l.length c, str s, .func (.func 105) #[] #[]] w0 (fun _ => False) fun v _ => ∃ i : Nat, v = .tuple ⟨[.int .i64 (i : Nat), .bool (decide (s ∈ l.map LMark.key))]⟩ ∧ (s ∈ l.map LMark.key → i < l.length ∧ (nthG l i).key = s) := by
  refine enter Tryd.func104 rfl rfl (Wd.begin (fs := [GlF p l]) (by simpa using hx)) (fun a S => ?_)
  simp only [Tryd.ntmps104, List.length_cons, List.length_nil, Nat.reduceAdd, Nat.reduceSub, List.replicate_succ, List.replicate_zero, List.cons_append, List.nil_append] at S
  refine c_seq ?_
  refine c_region ?_
  iterate 2 (refine sq S ?_; clear S; intro a S)
  refine wl_nil ?_
  refine xtn ?_
  refine c_seq ?_
  refine c_region ?_
  iterate 3 (refine sq S ?_; clear S; intro a S)
  refine wl_nil ?_
  refine xtn ?_
  refine c_seq ?_
  refine c_region ?_
  iterate 3 (refine sq S ?_; clear S; intro a S)
  refine wl_nil ?_
  refine xtn ?_
  refine c_seq ?_
  refine c_block ?_
  refine c_forb2 S (fun (i : Nat) (j : Nat) uu => [(9, .int .i64 (i : Nat)), (0, .int .i64 (j : Nat)), (0, uu 11), (3, uu 15), (0, uu 16), (0, uu 17), (0, uu 18), (0, uu 19), (0, uu 20), (0, uu 21), (0, uu 22), (0, uu 23), (0, uu 24), (0, uu 25), (0, uu 26), (0, uu 27), (0, uu 28), (0, uu 29), (0, uu 30), (0, uu 31), (0, uu 32), (0, uu 33), (0, uu 34)]) (fun (i : Nat) (j : Nat) => i ≤ j ∧ j ≤ l.length ∧ (∀ m, m < i → Op.bytesLess (nthG l m).key s = true) ∧ ∀ m, j ≤ m → m < l.length → Op.bytesLess (nthG l m).key s = false) (fun (i : Nat) (j : Nat) => j - i) (0) (l.length) ?_ S.uu ?_ ?_
  · exact ⟨Nat.zero_le _, Nat.le_refl _, fun m h => by omega, fun m h h' => by omega⟩
  · first | exact S | exact S.sub _ _
  · clear S; rintro i j uu a w ⟨hij, hjl, hlo, hhi⟩ S
    iterate 2 (refine c_seq ?_)
    refine c_region ?_
    iterate 3 (refine sq S ?_; clear S; intro a S)
    refine wl_nil ?_
    refine xtn ?_
    refine c_cond S (fun h3 => ?_) (fun h3 => ?_)
    · refine c_skip ?_
      refine xtn ?_
      refine c_block ?_
      refine c_seq ?_
      refine c_region ?_
      iterate 5 (refine sq S ?_; clear S; intro a S)
      rw [half_u i j (by omega)] at S
      refine sq S ?_; clear S; intro a S
      rw [show IntKind.i64.wrap (((i + j) / 2 : Nat) : Int) = (((i + j) / 2 : Nat) : Int) from w64 _ (by omega) (by omega)] at S
      have hKh : KLt ((i + j) / 2) l.length := ⟨by simp at h3; omega⟩
      refine sq S ?_; clear S; intro a S
      refine wl_nil ?_
      refine xtn ?_
      refine c_seq ?_
      refine c_region ?_
      iterate 6 (refine sq S ?_; clear S; intro a S)
      refine sr S (find1_c (nthG l ((i + j) / 2)) s _) ?_; clear S; rintro _ a w rfl S
      rw [show (Lib.compareBytes (nthG l ((i + j) / 2)).key s) = Lib.compareBytes (nthG l ((i + j) / 2)).key s from rfl] at S
      refine sq S ?_; clear S; intro a S
      rw [cmp_less] at S
      refine wl_nil ?_
      refine xtn ?_
      refine c_cond S (fun h5 => ?_) (fun h5 => ?_)
      · refine c_region ?_
        iterate 2 (refine sq S ?_; clear S; intro a S)
        rw [show IntKind.i64.wrap ((((i + j) / 2 : Nat) : Int) + 1) = (((i + j) / 2 + 1 : Nat) : Int) from w64 _ (by omega) (by omega)] at S
        refine sq S ?_; clear S; intro a S
        refine wl_nil ?_
        refine xbn ?_
        refine xtn ?_
        have h3' : i < j := by simp at h3; omega
        refine ⟨(i + j) / 2 + 1, j, S.uu, ⟨by omega, hjl, fun m hm => ?_, hhi⟩, S.sub _ _, by omega⟩
        exact key_le hr h5 (by omega) (by omega)
      · refine c_region ?_
        iterate 2 (refine sq S ?_; clear S; intro a S)
        refine wl_nil ?_
        refine xbn ?_
        refine xtn ?_
        have h3' : i < j := by simp at h3; omega
        refine ⟨i, (i + j) / 2, S.uu, ⟨by omega, by omega, hlo, fun m hm hml => ?_⟩, S.sub _ _, by omega⟩
        exact key_ge hr h5 hm hml
    · refine c_exit ?_
      iterate 2 (refine xte ?_)
      refine xbe ?_
      refine xtn ?_
      refine c_seq ?_
      refine c_region ?_
      iterate 5 (refine sq S ?_; clear S; intro a S)
      iterate 6 (refine gQ S ?_; clear S; intro a S)
      refine gC S ?_; clear S; intro a w S
      refine gQ S ?_; clear S; intro a S
      iterate 3 (refine sq S ?_; clear S; intro a S)
      refine wl_nil ?_
      refine xtn ?_
      refine c_ret ?_
      have hij2 : i = j := by simp at h3; omega
      subst hij2
      have key : (decide ((i : Int) < (l.length : Int)) && decide (Lib.compareBytes (nthG l i).key s = 0)) = decide (s ∈ l.map LMark.key) ∧ (s ∈ l.map LMark.key → i < l.length ∧ (nthG l i).key = s) := by
        have hmem : s ∈ l.map LMark.key → i < l.length ∧ (nthG l i).key = s := fun hm => by
          obtain ⟨m, hml, rfl⟩ := List.mem_map.1 hm
          obtain ⟨a, ha⟩ := List.getElem?_of_mem hml
          have hal : a < l.length := (List.getElem?_eq_some_iff.1 ha).1
          rw [nthG_get hal] at ha
          obtain rfl := Option.some.inj ha
          have h1 : i ≤ a := by
            rcases Nat.lt_or_ge a i with h | h
            · have := hlo a h; rw [bl_irrefl] at this; cases this
            · exact h
          rcases Nat.lt_or_ge i a with h | h
          · have h2 := key_lt hr h hal
            rw [hhi i (Nat.le_refl _) (by omega)] at h2; cases h2
          · obtain rfl : i = a := by omega
            exact ⟨hal, rfl⟩
        refine ⟨?_, hmem⟩
        rw [cmp_zero, Bool.eq_iff_iff, Bool.and_eq_true, decide_eq_true_iff, decide_eq_true_iff, decide_eq_true_iff]
        constructor
        · rintro ⟨h1, h2⟩
          exact List.mem_map.2 ⟨_, nthG_mem (show i < l.length by omega), h2⟩
        · intro h
          obtain ⟨h1, h2⟩ := hmem h
          exact ⟨by omega, h2⟩
      refine end2 S (fun _ => ?_)
      exact ⟨i, by rw [key.1], key.2⟩
theorem riseM_all : ∀ (k : List UInt8) (l : List LMark), riseM k l = true → (∀ m ∈ l, markB m = true ∧ Op.bytesLess k m.key = true) ∧ (l.map LMark.key).Pairwise fun a b => Op.bytesLess a b = true
  | k, [], _ => ⟨nofun, .nil⟩
  | k, m :: l, h => by
    rw [riseM, Bool.and_eq_true, Bool.and_eq_true] at h
    obtain ⟨⟨h1, h2⟩, h3⟩ := h
    obtain ⟨i1, i2⟩ := riseM_all m.key l h3
    refine ⟨fun x hx => ?_, List.pairwise_cons.2 ⟨fun b hb => ?_, i2⟩⟩
    · rcases List.mem_cons.1 hx with rfl | hx
      · exact ⟨h1, h2⟩
      · exact ⟨(i1 x hx).1, bl_trans _ _ _ h2 (i1 x hx).2⟩
    · obtain ⟨x, hx, rfl⟩ := List.mem_map.1 hb
      exact (i1 x hx).2
theorem tfind_c (l : List LMark) (p : Option Addr) (c : Nat) (s : List UInt8) (w0 : World) (hl : l.length ≤ 1000000) (hx : Stable (fun _ => False) w0 (GlF p l)) (hr : (l.map LMark.key).Pairwise fun a b => Op.bytesLess a b = true) :
    Ret Tryd.prog 70 [.slice p l.length c, str s] w0 (fun _ => False) fun v _ => ∃ i : Nat, v = .tuple ⟨[.int .i64 (i : Nat), .bool (decide (s ∈ l.map LMark.key))]⟩ ∧ (s ∈ l.map LMark.key → i < l.length ∧ (nthG l i).key = s) := by
  refine enter Tryd.func70 rfl rfl (Wd.begin (fs := [GlF p l]) (by simpa using hx)) (fun a S => ?_)
  simp only [Tryd.ntmps70, List.length_cons, List.length_nil, Nat.reduceAdd, Nat.reduceSub, List.replicate_succ, List.replicate_zero, List.cons_append, List.nil_append] at S
  refine c_seq ?_
  refine c_region ?_
  iterate 2 (refine sq S ?_; clear S; intro a S)
  refine wl_nil ?_
  refine xtn ?_
  refine c_seq ?_
  refine c_region ?_
  iterate 2 (refine sq S ?_; clear S; intro a S)
  refine sr S (bsearch_c l p c s _ hl (S.gl0 p) hr) ?_; clear S; rintro _ a w ⟨i, rfl, hi⟩ S
  iterate 4 (refine sq S ?_; clear S; intro a S)
  refine wl_nil ?_
  refine xtn ?_
  refine c_ret ?_
  refine end2 S (fun _ => ?_)
  exact ⟨i, rfl, hi⟩
end Go.Proofs.YtieeoakdkbackaaDoor

/- Package tree: rows, leaves, roots. -/
namespace Go.Proofs.YtieeoakdkbackaaDoor
open Go Go.Wk
set_option synthInstance.maxSize 100000
set_option synthInstance.maxHeartbeats 400000
set_option maxRecDepth 100000

/-- the library's table of powers of ten stands. -/
def TabF : World → Prop := fun w => Lib.TabIs Tryd.prog w "internal/strconv.uint64pow10" .u64 Lib.pow10Tab
theorem var_agree {P : Program} {w w' : World} {name : String} {cs : Array Value} (h : w.var? P name = some cs) (hw : Agree (fun _ => False) w w') : w'.var? P name = some cs := by
  unfold World.var? at *
  cases hg : P.globalNamed name with
  | none => rw [hg] at h; cases h
  | some g =>
    rw [hg] at h
    simp only [Option.bind_some] at h ⊢
    cases hb : w.heap[g]? with
    | none => rw [hb] at h; cases h
    | some o => rw [hw.blk (Array.getElem?_eq_some_iff.1 hb).1 (fun h => h), hb]; rw [hb] at h; exact h
theorem TabF.stable {w : World} (h : TabF w) : Stable (fun _ => False) w TabF := fun w' hw' => var_agree h hw'
theorem itoa_c (n : Int) (h0 : -9223372036854775808 ≤ n ∧ n ≤ 9223372036854775807) (w0 : World) (ht : TabF w0) : Ret Tryd.prog 86 [.int .i64 n] w0 (fun _ => False) fun v _ => v = str (Lib.itoa n) := by
  refine Calls.mono (Any.strconv_Itoa Tryd.laysM171 n h0.1 h0.2 w0 ht) ?_
  rintro e w' ⟨rfl, k, os, rfl⟩
  refine ⟨_, rfl, ⟨rfl, rfl, rfl, ?_, fun k' hk _ => ?_⟩, rfl⟩
  · show w0.heap.size ≤ (w0.heap ++ os).size
    simp
  · show (w0.heap ++ os)[k']? = w0.heap[k']?
    rw [Array.getElem?_append_left hk]
class I64 (n : Int) : Prop where
  lo : -9223372036854775808 ≤ n
  hi : n ≤ 9223372036854775807
instance {n : Int} {bs fs} [h : I64 n] [hf : HasFact fs TabF] : CallV Tryd.prog 86 [.int .i64 n] bs fs (str (Lib.itoa n)) := ⟨fun w m => itoa_c n ⟨h.lo, h.hi⟩ w (m.fact0 TabF).now⟩
def leafT (m : LMark) : Term := .hash (.pair (textT m.key) (textT (Lib.itoa m.ver)))
def joinT (a b : Term) : Term := .hash (.pair a b)
def halfN (n : Nat) : Nat := n - n / 2
def rootT (l : List LMark) : Term := if h0 : l.length = 0 then textT [] else if h1 : l.length = 1 then leafT (nthG l 0) else joinT (rootT (l.take (halfN l.length))) (rootT (l.drop (halfN l.length)))
termination_by l.length
decreasing_by
  · simp [halfN]; omega
  · simp [halfN]; omega
theorem rootT_two {l : List LMark} (h : 2 ≤ l.length) : rootT l = joinT (rootT (l.take (halfN l.length))) (rootT (l.drop (halfN l.length))) := by
  conv => lhs; rw [rootT]
  rw [dif_neg (by omega), dif_neg (by omega)]
theorem rootT_one {l : List LMark} (h : l.length = 1) : rootT l = leafT (nthG l 0) := by
  rw [rootT, dif_neg (by omega), dif_pos h]
theorem rootT_nil : rootT [] = textT [] := by rw [rootT]; rfl
theorem trow_c (m : LMark) (M : Nat → Prop) (w0 : World) (hm : 0 ≤ m.ver ∧ m.ver ≤ 65535) (hM : ∀ k, M k → k < w0.heap.size) (ht : Stable M w0 TabF) : Ret Tryd.prog 100 [vMark m] w0 (fun _ => False) fun v w' => IsT M w' v (.pair (textT m.key) (textT (Lib.itoa m.ver))) := by
  refine enter Tryd.func100 rfl rfl (Wd.beginM (M := M) (fs := [TabF]) hM (by simpa using ht)) (fun a S => ?_)
  simp only [Tryd.ntmps100, List.length_cons, List.length_nil, Nat.reduceAdd, Nat.reduceSub, List.replicate_succ, List.replicate_zero, List.cons_append, List.nil_append] at S
  refine c_seq ?_
  refine c_region ?_
  refine sa S ?_; clear S; intro b1 a w S
  refine sa S ?_; clear S; intro b2 a w S
  refine wl_nil ?_
  refine xtn ?_
  refine c_seq ?_
  refine c_drawD [(0, true), (1, true), (3, true), (4, true), (2, false), (5, false), (6, false), (7, false), (8, false)] [b2] S ?_; clear S; intro w S
  iterate 4 (refine dq S ?_; clear S; intro a S)
  refine dl ?_
  refine sc S ?_; clear S; intro a w S
  refine de S ?_
  refine dl ?_
  refine sr S (itoa_c m.ver ⟨by omega, by omega⟩ _ (S.mem.fact0 TabF).now) ?_; clear S; rintro _ a w rfl S
  refine de S ?_
  refine dl ?_
  refine sc S ?_; clear S; intro a w S
  refine de S ?_
  refine dl ?_
  replace S := (S.add (Φ := LtF (textL m.key)) (fun _ _ => by simp [LtIn, textL, LsIn, LtF])).add (Φ := LtF (textL (Lib.itoa m.ver))) (fun _ _ => by simp [LtIn, textL, LsIn, LtF])
  refine sr S (pair_c (textL m.key) (textL (Lib.itoa m.ver)) _ w (foots_lt S) (S.t _) (S.t _)) ?_; clear S; rintro _ a w ⟨r, rfl, hr, hrf⟩ S
  replace S := S.add hrf
  refine de S ?_
  refine dl ?_
  refine sw S ?_; clear S; intro a w S
  refine de S ?_
  refine dn ?_
  refine xtn ?_
  refine c_ret ?_
  have hlat := S.laterT (M := M) r
  refine end1 S (fun _ => ?_)
  exact ⟨r, rfl, hr, hlat⟩
theorem tleaf_c (m : LMark) (M : Nat → Prop) (w0 : World) (hm : 0 ≤ m.ver ∧ m.ver ≤ 65535) (hM : ∀ k, M k → k < w0.heap.size) (ht : Stable M w0 TabF) : Ret Tryd.prog 102 [vMark m] w0 (fun _ => False) fun v w' => IsT M w' v (leafT m) := by
  refine enter Tryd.func102 rfl rfl (Wd.beginM (M := M) (fs := [TabF]) hM (by simpa using ht)) (fun a S => ?_)
  simp only [Tryd.ntmps102, List.length_cons, List.length_nil, Nat.reduceAdd, Nat.reduceSub, List.replicate_succ, List.replicate_zero, List.cons_append, List.nil_append] at S
  refine c_seq ?_
  refine c_region ?_
  refine sa S ?_; clear S; intro b1 a w S
  refine sa S ?_; clear S; intro b2 a w S
  refine wl_nil ?_
  refine xtn ?_
  refine c_seq ?_
  refine c_region ?_
  refine sq S ?_; clear S; intro a S
  refine sr S (trow_c m _ w hm (foots_lt S) (S.mem.fact TabF)) ?_; clear S; rintro _ a w ⟨r, rfl, hr, hrf⟩ S
  replace S := S.add hrf
  refine sr S (hash_c r _ w (foots_lt S) (S.t r)) ?_; clear S; rintro _ a w ⟨q, rfl, hq, hqf⟩ S
  replace S := S.add hqf
  refine sw S ?_; clear S; intro a w S
  refine wl_nil ?_
  refine xtn ?_
  refine c_ret ?_
  have hlat := S.laterT (M := M) q
  refine end1 S (fun _ => ?_)
  exact ⟨q, rfl, by rw [hq, hr]; rfl, hlat⟩
theorem tjoin_c (x y : LTerm) (M : Nat → Prop) (w0 : World) (hM : ∀ k, M k → k < w0.heap.size) (hx : Stable M w0 (LtF x)) (hy : Stable M w0 (LtF y)) : Ret Tryd.prog 103 [vL x, vL y] w0 (fun _ => False) fun v w' => IsT M w' v (joinT x.t y.t) := by
  refine enter Tryd.func103 rfl rfl (Wd.beginM (M := M) (fs := [LtF x, LtF y]) hM (by simp; exact ⟨hx, hy⟩)) (fun a S => ?_)
  simp only [Tryd.ntmps103, List.length_cons, List.length_nil, Nat.reduceAdd, Nat.reduceSub, List.replicate_succ, List.replicate_zero, List.cons_append, List.nil_append] at S
  refine c_seq ?_
  refine c_region ?_
  refine sa S ?_; clear S; intro b2 a w S
  refine sa S ?_; clear S; intro b3 a w S
  refine sa S ?_; clear S; intro b4 a w S
  refine wl_nil ?_
  refine xtn ?_
  refine c_seq ?_
  refine c_region ?_
  iterate 2 (refine sq S ?_; clear S; intro a S)
  refine sr S (pair_c x y _ w (foots_lt S) (S.t x) (S.t y)) ?_; clear S; rintro _ a w ⟨r, rfl, hr, hrf⟩ S
  replace S := S.add hrf
  refine sr S (hash_c r _ w (foots_lt S) (S.t r)) ?_; clear S; rintro _ a w ⟨q, rfl, hq, hqf⟩ S
  replace S := S.add hqf
  refine sw S ?_; clear S; intro a w S
  refine wl_nil ?_
  refine xtn ?_
  refine c_ret ?_
  have hlat := S.laterT (M := M) q
  refine end1 S (fun _ => ?_)
  exact ⟨q, rfl, by rw [hq, hr]; rfl, hlat⟩
theorem half_c (n : Nat) (hn : n ≤ 1000000) (w0 : World) : Ret Tryd.prog 71 [.int .i64 (n : Nat)] w0 (fun _ => False) fun v _ => v = .int .i64 (halfN n : Nat) := by
  refine enter Tryd.func71 rfl rfl (Wd.start w0) (fun a S => ?_)
  simp only [Tryd.ntmps71, List.length_cons, List.length_nil, Nat.reduceAdd, Nat.reduceSub, List.replicate_succ, List.replicate_zero, List.cons_append, List.nil_append] at S
  refine c_seq ?_
  refine c_region ?_
  refine sq S ?_; clear S; intro a S
  refine wl_nil ?_
  refine xtn ?_
  refine c_seq ?_
  refine c_region ?_
  iterate 3 (refine sq S ?_; clear S; intro a S)
  rw [show ((n : Int)).tdiv 2 = ((n / 2 : Nat) : Int) from by rw [Int.tdiv_eq_ediv_of_nonneg (by omega)]; rfl, w64 _ (by omega) (by omega)] at S
  refine sq S ?_; clear S; intro a S
  rw [w64 _ (by omega) (by omega), show (n : Int) - ((n / 2 : Nat) : Int) = ((halfN n : Nat) : Int) from by unfold halfN; omega] at S
  refine sq S ?_; clear S; intro a S
  refine wl_nil ?_
  refine xtn ?_
  refine c_ret ?_
  refine end1 S (fun _ => rfl)
theorem root_c (N : Nat) : ∀ (l : List LMark) (p : Option Addr) (n c : Nat) (M : Nat → Prop) (w0 : World), l.length < N → l.length = n → n ≤ 100 → n ≤ c → (∀ m ∈ l, 0 ≤ m.ver ∧ m.ver ≤ 65535) → (∀ k, M k → k < w0.heap.size) → Stable M w0 TabF → Stable M w0 (GlF p l) →
    Ret Tryd.prog 73 [.slice p n c] w0 (fun _ => False) fun v w' => IsT M w' v (rootT l) := by
  induction N with
  | zero => intro l _ _ _ _ _ h; exact absurd h (Nat.not_lt_zero _)
  | succ N ih =>
  intro l p n c M w0 hN hn h100 hnc hv hM ht hx
  subst hn
  refine enter Tryd.func73 rfl rfl (Wd.beginM (M := M) (fs := [TabF, GlF p l]) hM (by simp; exact ⟨ht, hx⟩)) (fun a S => ?_)
  simp only [Tryd.ntmps73, List.length_cons, List.length_nil, Nat.reduceAdd, Nat.reduceSub, List.replicate_succ, List.replicate_zero, List.cons_append, List.nil_append] at S
  refine c_seq ?_
  refine c_region ?_
  refine sa S ?_; clear S; intro b2 a w S
  refine wl_nil ?_
  refine xtn ?_
  refine c_seq ?_
  refine c_region ?_
  iterate 3 (refine sq S ?_; clear S; intro a S)
  refine wl_nil ?_
  refine xtn ?_
  refine c_seq ?_
  refine c_region ?_
  refine sq S ?_; clear S; intro a S
  refine wl_nil ?_
  refine xtn ?_
  refine c_block ?_
  refine c_seq ?_
  refine c_region ?_
  iterate 2 (refine sq S ?_; clear S; intro a S)
  refine wl_nil ?_
  refine xtn ?_
  refine c_cond S (fun h5 => ?_) (fun h5 => ?_)
  · refine c_seq ?_
    refine c_region ?_
    refine sc S ?_; clear S; intro a w S
    refine sw S ?_; clear S; intro a w S
    refine wl_nil ?_
    refine xtn ?_
    refine c_ret ?_
    refine xbr ?_
    have h0 : l.length = 0 := by simpa using h5
    refine end1 S (fun _ => ?_)
    refine ⟨textL [], rfl, ?_, fun w' _ => by simp [LtIn, textL, LsIn, LtF]⟩
    rw [rootT, dif_pos h0]; rfl
  · refine c_seq ?_
    refine c_region ?_
    iterate 2 (refine sq S ?_; clear S; intro a S)
    refine wl_nil ?_
    refine xtn ?_
    refine c_cond S (fun h7 => ?_) (fun h7 => ?_)
    · refine c_seq ?_
      have h1 : l.length = 1 := by simp at h7; omega
      have hK : KLt 0 l.length := ⟨by omega⟩
      refine c_region ?_
      iterate 3 (refine sq S ?_; clear S; intro a S)
      refine sr S (tleaf_c (nthG l 0) _ w (hv _ (nthG_mem (by omega))) (foots_lt S) (S.mem.fact TabF)) ?_; clear S; rintro _ a w ⟨r, rfl, hr, hrf⟩ S
      replace S := S.add hrf
      refine sw S ?_; clear S; intro a w S
      refine wl_nil ?_
      refine xtn ?_
      refine c_ret ?_
      refine xbr ?_
      have hlat := S.laterT (M := M) r
      refine end1 S (fun _ => ?_)
      exact ⟨r, rfl, by rw [hr, rootT_one h1], hlat⟩
    · refine c_seq ?_
      refine c_region ?_
      refine sq S ?_; clear S; intro a S
      refine sr S (half_c l.length (by omega) _) ?_; clear S; rintro _ a w rfl S
      refine sq S ?_; clear S; intro a S
      refine wl_nil ?_
      refine xtn ?_
      refine c_seq ?_
      have h2 : 2 ≤ l.length := by have q5 := of_decide_eq_false h5; have q7 := of_decide_eq_false h7; omega
      have hh : halfN l.length < l.length ∧ 0 < halfN l.length := by unfold halfN; omega
      have hlt : (l.take (halfN l.length)).length = halfN l.length := by rw [List.length_take]; omega
      have hld : (l.drop (halfN l.length)).length = l.length - halfN l.length := List.length_drop
      have hL1 : LeC (halfN l.length) c := ⟨by omega⟩
      have hL2 : LeC (halfN l.length) l.length := ⟨by omega⟩
      have hL3 : LeC l.length c := ⟨hnc⟩
      have hg := S.gl p (xs := l)
      replace S := (S.add (Φ := GlF (if c = halfN l.length then p else p.map (·.add (halfN l.length * 2))) (l.drop (halfN l.length))) (hg.imp fun _ h => h.drop _ hnc)).add (Φ := GlF p (l.take (halfN l.length))) (hg.imp fun _ h => h.take _)
      refine c_drawD [(0, true), (1, true), (2, true), (4, true), (5, true), (6, true), (3, false), (7, false), (8, false), (9, false)] [b2] S ?_; clear S; intro w S
      iterate 6 (refine dq S ?_; clear S; intro a S)
      refine dl ?_
      refine sr S (ih (l.take (halfN l.length)) p (halfN l.length) c _ w (by omega) hlt (by omega) (by omega) (fun m hm => hv m (List.take_subset _ _ hm)) (foots_lt S) (S.mem.fact TabF) (S.mem.fact (GlF p (l.take (halfN l.length))))) ?_; clear S; rintro _ a w ⟨r1, rfl, hr1, hrf1⟩ S
      replace S := S.add hrf1
      refine de S ?_
      refine dl ?_
      refine sr S (ih (l.drop (halfN l.length)) (if c = halfN l.length then p else p.map (·.add (halfN l.length * 2))) (l.length - halfN l.length) (c - halfN l.length) _ w (by omega) hld (by omega) (by omega) (fun m hm => hv m (List.drop_subset _ _ hm)) (foots_lt S) (S.mem.fact TabF) (S.mem.fact (GlF (if c = halfN l.length then p else p.map (·.add (halfN l.length * 2))) (l.drop (halfN l.length))))) ?_; clear S; rintro _ a w ⟨r2, rfl, hr2, hrf2⟩ S
      replace S := S.add hrf2
      refine de S ?_
      refine dl ?_
      refine sr S (tjoin_c r1 r2 _ w (foots_lt S) (S.t r1) (S.t r2)) ?_; clear S; rintro _ a w ⟨r, rfl, hr, hrf⟩ S
      replace S := S.add hrf
      refine de S ?_
      refine dl ?_
      refine sw S ?_; clear S; intro a w S
      refine de S ?_
      refine dn ?_
      refine xtn ?_
      refine c_ret ?_
      refine xbr ?_
      have hlat := S.laterT (M := M) r
      refine end1 S (fun _ => ?_)
      exact ⟨r, rfl, by rw [hr, hr1, hr2, ← rootT_two h2], hlat⟩
theorem okV (l : List LMark) (hl : okM l = true) : l.length ≤ 16 ∧ (∀ m ∈ l, 0 ≤ m.ver ∧ m.ver ≤ 65535) ∧ (∀ m ∈ l, m.key ≠ [] ∧ m.key.length ≤ 64) ∧ (l.map LMark.key).Pairwise fun a b => Op.bytesLess a b = true := by
  unfold okM at hl
  rw [Bool.and_eq_true, decide_eq_true_iff] at hl
  obtain ⟨h1, h2⟩ := riseM_all _ _ hl.2
  have hb : ∀ m ∈ l, markB m = true := fun m hm => (h1 m hm).1
  refine ⟨by omega, fun m hm => ?_, fun m hm => ?_, h2⟩
  · have := hb m hm
    simp only [markB, Bool.and_eq_true, decide_eq_true_eq] at this
    exact ⟨this.1.2, this.2⟩
  · have := hb m hm
    simp only [markB, Bool.and_eq_true, decide_eq_true_eq, Bool.not_eq_true', decide_eq_false_iff_not] at this
    exact ⟨this.1.1.1, by omega⟩
def RootR (M : Nat → Prop) (b : Bool) (T : Term) (v : Value) (w : World) : Prop := ∃ (r : LTerm) (e : Int), v = .tuple ⟨[vL r, .int .i64 e]⟩ ∧ Stable M w (LtF r) ∧ (b = true → e = 0 ∧ r.t = T) ∧ (b = false → e = 240 ∧ r.t = zeroT)
theorem troot_c (l : List LMark) (p : Option Addr) (c : Nat) (M : Nat → Prop) (w0 : World) (hc : l.length ≤ c) (hl : l.length ≤ 1000000) (hM : ∀ k, M k → k < w0.heap.size) (ht : Stable M w0 TabF) (hx : Stable M w0 (GlF p l)) :
    Ret Tryd.prog 60 [.slice p l.length c] w0 (fun _ => False) fun v w' => RootR M (okM l) (rootT l) v w' := by
  have hLe : LeC l.length 9223372036854775807 := ⟨by omega⟩
  refine enter Tryd.func60 rfl rfl (Wd.beginM (M := M) (fs := [TabF, GlF p l]) hM (by simp; exact ⟨ht, hx⟩)) (fun a S => ?_)
  simp only [Tryd.ntmps60, List.length_cons, List.length_nil, Nat.reduceAdd, Nat.reduceSub, List.replicate_succ, List.replicate_zero, List.cons_append, List.nil_append] at S
  refine c_seq ?_
  refine c_region ?_
  refine sa S ?_; clear S; intro b2 a w S
  refine sq S ?_; clear S; intro a S
  refine wl_nil ?_
  refine xtn ?_
  iterate 2 (refine c_seq ?_)
  refine c_region ?_
  refine sq S ?_; clear S; intro a S
  refine sc S ?_; clear S; intro a w S
  refine sq S ?_; clear S; intro a S
  refine wl_nil ?_
  refine xtn ?_
  refine c_seq ?_
  refine c_region ?_
  iterate 2 (refine sq S ?_; clear S; intro a S)
  refine wl_nil ?_
  refine xtn ?_
  refine c_cond S (fun h2 => ?_) (fun h2 => ?_)
  · refine c_seq ?_
    refine c_region ?_
    iterate 2 (refine sq S ?_; clear S; intro a S)
    refine sw S ?_; clear S; intro a w S
    refine sq S ?_; clear S; intro a S
    refine wl_nil ?_
    refine xtn ?_
    refine c_ret ?_
    refine xtr ?_
    have hb : okM l = false := by
      cases h : okM l with
      | false => rfl
      | true => simp [tchkF, h] at h2
    have e : tchkF l = 240 := by simp [tchkF, hb]
    refine end2 S (fun _ => ?_)
    exact ⟨zeroL, _, rfl, fun w' _ => by simp [zeroL, LtIn, LsIn, LtF], (fun h => by rw [hb] at h; cases h), fun _ => ⟨e, rfl⟩⟩
  · refine c_skip ?_
    refine xtn ?_
    refine c_seq ?_
    have hb : okM l = true := by
      cases h : okM l with
      | true => rfl
      | false => simp [tchkF, h] at h2
    obtain ⟨v1, v2, v3, v4⟩ := okV l hb
    refine c_region ?_
    refine sq S ?_; clear S; intro a S
    refine sr S (root_c _ l p l.length c _ w (Nat.lt_succ_self _) rfl (by omega) hc v2 (foots_lt S) (S.mem.fact TabF) (S.gl p)) ?_; clear S; rintro _ a w ⟨r, rfl, hr, hrf⟩ S
    replace S := S.add hrf
    refine sw S ?_; clear S; intro a w S
    refine sq S ?_; clear S; intro a S
    refine wl_nil ?_
    refine xtn ?_
    refine c_ret ?_
    have hlat := S.laterT (M := M) r
    refine end2 S (fun _ => ?_)
    exact ⟨r, 0, rfl, hlat, fun _ => ⟨rfl, hr⟩, fun h => by rw [hb] at h; cases h⟩
end Go.Proofs.YtieeoakdkbackaaDoor

/- Trees of marks in plain words. -/
namespace Go.Proofs.YtieeoakdkbackaaDoor
open Go Go.Wk
set_option maxRecDepth 100000

theorem parse_dec : ∀ (N u : Nat) (r : List UInt8), u ≤ N → u < 1000000000000000000 → Lib.parseUint10 0 (Lib.decDigits u ++ r) = Lib.parseUint10 u r := by
  intro N
  induction N with
  | zero =>
    intro u r hu _
    obtain rfl : u = 0 := by omega
    rw [Lib.decDigits, dif_pos (by omega)]
    show Lib.parseUint10 0 (UInt8.ofNat 48 :: r) = _
    rw [Lib.parseUint10]; rfl
  | succ N ih =>
    intro u r hu hb
    have hd : ∀ d : Nat, d < 10 → (UInt8.ofNat (48 + d)).toNat = 48 + d := fun d hd => by rw [UInt8.toNat_ofNat_of_lt' (by show 48 + d < 256; omega)]
    rw [Lib.decDigits]
    split
    · rename_i h
      show Lib.parseUint10 0 (UInt8.ofNat (48 + u) :: r) = _
      rw [Lib.parseUint10, hd u h, if_pos (by omega), if_neg (by omega), if_neg (by omega)]
      congr 1; omega
    · rename_i h
      rw [List.append_assoc, ih (u / 10) _ (by omega) (by omega)]
      show Lib.parseUint10 (u / 10) (UInt8.ofNat (48 + u % 10) :: r) = _
      rw [Lib.parseUint10, hd (u % 10) (by omega), if_pos (by omega), if_neg (by omega), if_neg (by omega)]
      congr 1; omega
theorem dec_head : ∀ (N u : Nat), u ≤ N → ∃ c r, Lib.decDigits u = c :: r ∧ 48 ≤ c.toNat ∧ c.toNat ≤ 57 := by
  intro N
  induction N with
  | zero =>
    intro u hu
    obtain rfl : u = 0 := by omega
    rw [Lib.decDigits, dif_pos (by omega)]
    exact ⟨_, _, rfl, by decide, by decide⟩
  | succ N ih =>
    intro u hu
    have hd : ∀ d : Nat, d < 10 → (UInt8.ofNat (48 + d)).toNat = 48 + d := fun d hd => by rw [UInt8.toNat_ofNat_of_lt' (by show 48 + d < 256; omega)]
    rw [Lib.decDigits]
    split
    · rename_i h
      exact ⟨_, _, rfl, by rw [hd u h]; omega, by rw [hd u h]; omega⟩
    · rename_i h
      obtain ⟨c, r, h1, h2, h3⟩ := ih (u / 10) (by omega)
      exact ⟨c, r ++ [UInt8.ofNat (48 + u % 10)], by rw [h1]; rfl, h2, h3⟩
theorem atoi_itoa {n : Int} (h : 0 ≤ n ∧ n ≤ 65535) : Lib.atoiAll (Lib.itoa n) = .ok n := by
  have e : Lib.itoa n = Lib.decDigits n.toNat := by rw [Lib.itoa, if_neg (by omega)]
  obtain ⟨c, r, h1, h2, h3⟩ := dec_head _ n.toNat (Nat.le_refl _)
  have hp := parse_dec _ n.toNat [] (Nat.le_refl _) (by omega)
  rw [List.append_nil, Lib.parseUint10] at hp
  have hc : ¬ (c.toNat = 43 ∨ c.toNat = 45) := by omega
  have hm : Lib.parseMag (c :: r) = .ok n.toNat := by rw [Lib.parseMag, if_neg (by simp), ← h1, hp]
  have hc2 : ¬ c.toNat = 45 := by omega
  rw [e, h1]
  have hb : ¬ 9223372036854775808 ≤ n.toNat := by omega
  have hc1 : ¬ c.toNat = 43 := by omega
  simp only [Lib.atoiAll, hc1, hc2, or_self, if_false, hm, not_false_eq_true, true_and, false_and, hb]
  rw [show ((n.toNat : Nat) : Int) = n from by omega]
theorem itoa_inj {a b : Int} (ha : 0 ≤ a ∧ a ≤ 65535) (hb : 0 ≤ b ∧ b ≤ 65535) (h : Lib.itoa a = Lib.itoa b) : a = b := by
  have h1 := atoi_itoa ha
  rw [h, atoi_itoa hb] at h1
  injection h1 with h1; exact h1.symm
theorem leafT_inj {a b : LMark} (ha : 0 ≤ a.ver ∧ a.ver ≤ 65535) (hb : 0 ≤ b.ver ∧ b.ver ≤ 65535) (h : leafT a = leafT b) : a = b := by
  simp only [leafT, Term.hash, Term.pair, textT, Term.mk.injEq, List.cons.injEq, and_true, true_and] at h
  cases a; cases b
  simp only [LMark.mk.injEq]
  exact ⟨h.1, itoa_inj ha hb h.2⟩
theorem joinT_inj {a b c d : Term} (h : joinT a b = joinT c d) : a = c ∧ b = d := by
  simpa [joinT, Term.hash, Term.pair] using h
/-- a hash. -/
def IsH (t : Term) : Prop := ∃ a, t = .hash a
theorem leaf_join {m : LMark} {a b : Term} (h : leafT m = joinT a b) : ¬ IsH a ∧ ¬ IsH b := by
  simp only [leafT, joinT, Term.hash, Term.pair, Term.mk.injEq, List.cons.injEq, and_true, true_and] at h
  refine ⟨?_, ?_⟩
  · rintro ⟨x, rfl⟩; have := h.1; simp [textT, Term.hash] at this
  · rintro ⟨x, rfl⟩; have := h.2; simp [textT, Term.hash] at this
theorem root_h {l : List LMark} (h : 0 < l.length) : IsH (rootT l) := by
  rcases Nat.lt_or_ge 1 l.length with h1 | h1
  · rw [rootT_two h1]; exact ⟨_, rfl⟩
  · rw [rootT_one (by omega)]; exact ⟨_, rfl⟩
theorem root_inj (N : Nat) : ∀ {a b : List LMark}, a.length < N → (∀ m ∈ a, 0 ≤ m.ver ∧ m.ver ≤ 65535) → (∀ m ∈ b, 0 ≤ m.ver ∧ m.ver ≤ 65535) → rootT a = rootT b → a = b := by
  induction N with
  | zero => intro a b h; exact absurd h (Nat.not_lt_zero _)
  | succ N ih =>
  intro a b hN ha hb h
  have hx : ∀ {l : List LMark}, 0 < l.length → rootT l ≠ textT [] := fun hl he => by
    obtain ⟨x, hx⟩ := root_h hl
    rw [hx] at he; simp [Term.hash, textT] at he
  rcases Nat.lt_trichotomy a.length 1 with h1 | h1 | h1
  · have : a = [] := List.eq_nil_of_length_eq_zero (by omega)
    subst this
    cases b with
    | nil => rfl
    | cons m b => rw [rootT_nil] at h; exact absurd h.symm (hx (by simp))
  · rcases Nat.lt_trichotomy b.length 1 with h2 | h2 | h2
    · have : b = [] := List.eq_nil_of_length_eq_zero (by omega)
      subst this
      rw [rootT_nil] at h; exact absurd h (hx (by omega))
    · rw [rootT_one h1, rootT_one h2] at h
      have e := leafT_inj (ha _ (nthG_mem (by omega))) (hb _ (nthG_mem (by omega))) h
      match a, b, h1, h2 with
      | [x], [y], _, _ => simp [nthG] at e; rw [e]
    · rw [rootT_one h1, rootT_two h2] at h
      exact absurd (root_h (l := b.take (halfN b.length)) (by rw [List.length_take]; unfold halfN; omega)) (leaf_join h).1
  · rcases Nat.lt_trichotomy b.length 1 with h2 | h2 | h2
    · have : b = [] := List.eq_nil_of_length_eq_zero (by omega)
      subst this
      rw [rootT_nil] at h; exact absurd h (hx (by omega))
    · rw [rootT_one h2, rootT_two h1] at h
      exact absurd (root_h (l := a.take (halfN a.length)) (by rw [List.length_take]; unfold halfN; omega)) (leaf_join h.symm).1
    · rw [rootT_two h1, rootT_two h2] at h
      obtain ⟨q1, q2⟩ := joinT_inj h
      have hA : halfN a.length < a.length ∧ 0 < halfN a.length := by unfold halfN; omega
      have e1 := ih (a := a.take (halfN a.length)) (b := b.take (halfN b.length)) (by rw [List.length_take]; omega) (fun m hm => ha m (List.take_subset _ _ hm)) (fun m hm => hb m (List.take_subset _ _ hm)) q1
      have e2 := ih (a := a.drop (halfN a.length)) (b := b.drop (halfN b.length)) (by rw [List.length_drop]; omega) (fun m hm => ha m (List.drop_subset _ _ hm)) (fun m hm => hb m (List.drop_subset _ _ hm)) q2
      rw [← List.take_append_drop (halfN a.length) a, ← List.take_append_drop (halfN b.length) b, e1, e2]
/-- the way up from a mark, from the root down. -/
def pathT (l : List LMark) (i : Nat) : List Term := if h : l.length ≤ 1 then [] else
  if i < halfN l.length then .pair (textT [114]) (rootT (l.drop (halfN l.length))) :: pathT (l.take (halfN l.length)) i
  else .pair (textT [108]) (rootT (l.take (halfN l.length))) :: pathT (l.drop (halfN l.length)) (i - halfN l.length)
termination_by l.length
decreasing_by
  · simp [halfN]; omega
  · simp [halfN]; omega
def stepT (x : Option Term) (p : Term) : Option Term :=
  match x, p with
  | some x, .mk 4 _ _ _ [.mk 1 _ _ s _, y] => if s = [108] then some (joinT y x) else if s = [114] then some (joinT x y) else none
  | _, _ => none
def upT (m : LMark) (ps : List Term) : Option Term := ps.foldl stepT (some (leafT m))
theorem path_up (N : Nat) : ∀ (l : List LMark) (i : Nat), l.length < N → i < l.length → upT (nthG l i) (pathT l i).reverse = some (rootT l) := by
  induction N with
  | zero => intro l i h; exact absurd h (Nat.not_lt_zero _)
  | succ N ih =>
  intro l i hN hi
  rw [pathT]
  split
  · rename_i h
    rw [rootT_one (by omega)]
    obtain rfl : i = 0 := by omega
    rfl
  · rename_i h
    have hA : halfN l.length < l.length ∧ 0 < halfN l.length := by unfold halfN; omega
    split
    · rename_i h2
      have e := ih (l.take (halfN l.length)) i (by rw [List.length_take]; omega) (by rw [List.length_take]; omega)
      have en : nthG (l.take (halfN l.length)) i = nthG l i := by rw [nthG, nthG, List.getD_eq_getElem?_getD, List.getD_eq_getElem?_getD, List.getElem?_take, if_pos h2]
      rw [en] at e
      rw [List.reverse_cons, upT, List.foldl_append]
      rw [upT] at e
      rw [e]
      exact congrArg some (rootT_two (show 2 ≤ l.length by omega)).symm
    · rename_i h2
      have e := ih (l.drop (halfN l.length)) (i - halfN l.length) (by rw [List.length_drop]; omega) (by rw [List.length_drop]; omega)
      have en : nthG (l.drop (halfN l.length)) (i - halfN l.length) = nthG l i := by rw [nthG, nthG, List.getD_eq_getElem?_getD, List.getD_eq_getElem?_getD, List.getElem?_drop, show halfN l.length + (i - halfN l.length) = i from by omega]
      rw [en] at e
      rw [List.reverse_cons, upT, List.foldl_append]
      rw [upT] at e
      rw [e]
      exact congrArg some (rootT_two (show 2 ≤ l.length by omega)).symm
theorem path_len (N : Nat) : ∀ (l : List LMark) (i : Nat), l.length < N → (pathT l i).length ≤ l.length - 1 := by
  induction N with
  | zero => intro l i h; exact absurd h (Nat.not_lt_zero _)
  | succ N ih =>
  intro l i hN
  rw [pathT]
  split
  · simp
  · have hA : halfN l.length < l.length ∧ 0 < halfN l.length := by unfold halfN; omega
    split
    · have := ih (l.take (halfN l.length)) i (by rw [List.length_take]; omega)
      rw [List.length_take] at this
      simp only [List.length_cons]; omega
    · have := ih (l.drop (halfN l.length)) (i - halfN l.length) (by rw [List.length_drop]; omega)
      rw [List.length_drop] at this
      simp only [List.length_cons]; omega
end Go.Proofs.YtieeoakdkbackaaDoor

/- Package tree: the proof of a key. -/
namespace Go.Proofs.YtieeoakdkbackaaDoor
open Go Go.Wk
set_option synthInstance.maxSize 100000
set_option synthInstance.maxHeartbeats 400000
set_option maxRecDepth 100000

theorem encL_setG (ys : List LTerm) (i : Nat) (x : LTerm) (h : i < ys.length) : (encL ys).take (i * 5) ++ x.cells ++ (encL ys).drop (i * 5 + x.cells.length) = encL (ys.set i x) := by
  have e : x.cells.length = 5 := rfl
  rw [e, ← show encL (ys.take i) = (encL ys).take (i * 5) from encL_takeG ys i, ← show encL (ys.drop (i + 1)) = (encL ys).drop (i * 5 + 5) from by rw [show i * 5 + 5 = (i + 1) * 5 from by omega]; exact encL_dropG ys (i + 1)]
  rw [← encT_cells, ← encL_append, ← encL_append, List.set_eq_take_append_cons_drop, if_pos h, List.append_assoc]; rfl
def revAt (xs : List LTerm) (k t : Nat) : LTerm := if t < k ∨ xs.length ≤ t + k then nthL xs (xs.length - 1 - t) else nthL xs t
theorem nthL_set (l : List LTerm) (i : Nat) (x : LTerm) (t : Nat) (h : i < l.length) : nthL (l.set i x) t = if i = t then x else nthL l t := by
  unfold nthL
  rw [List.getD_eq_getElem?_getD, List.getD_eq_getElem?_getD, List.getElem?_set]
  split
  · rfl
  · rfl
theorem reverse_nil (p : Option Addr) (c : Nat) (w0 : World) (hown : w0.ownsRow 0 24 5 (.slice p 0 c) 0 []) :
    Ret Tryd.prog 74 [.slice p 0 c] w0 (fun k => ∃ ad, p = some ad ∧ k = ad.block) fun v w' => v = .tuple #[] ∧ w'.ownsRow 0 24 5 (.slice p 0 c) 0 [] := by
  refine enter Tryd.func74 rfl rfl (Wd.rowLent (fs := []) hown nofun) (fun a S => ?_)
  simp only [Tryd.ntmps74, List.length_cons, List.length_nil, Nat.reduceAdd, Nat.reduceSub, List.replicate_succ, List.replicate_zero, List.cons_append, List.nil_append] at S
  refine c_seq ?_
  refine c_region ?_
  iterate 3 (refine sq S ?_; clear S; intro a S)
  rw [w64 _ (by omega) (by omega), show ((0 : Nat) : Int) - 1 = -1 from rfl] at S
  iterate 2 (refine sq S ?_; clear S; intro a S)
  refine wl_nil ?_
  refine xtn ?_
  refine c_block ?_
  refine c_forf1 S (fun (k : Nat) uu => [(2, .int .i64 0), (0, .int .i64 (-1)), (3, uu 7), (0, uu 8), (0, uu 9), (0, uu 10), (0, uu 11), (0, uu 12), (0, uu 13), (0, uu 14), (0, uu 15), (0, uu 16), (0, uu 17), (0, uu 18), (0, uu 19), (0, uu 20), (0, uu 21), (0, uu 22), (0, uu 23), (0, uu 24), (0, uu 25), (0, uu 26), (0, uu 27)]) (fun (k : Nat) => [Wk.row 24 5 p 0 c []]) (fun (k : Nat) => True) (fun (k : Nat) => 0) (0) ?_ S.uu ?_ ?_
  · trivial
  · first | exact S | exact S.sub _ _
  · clear S; rintro k uu a w hrel S
    iterate 2 (refine c_seq ?_)
    refine c_region ?_
    iterate 3 (refine sq S ?_; clear S; intro a S)
    rw [show decide ((0 : Int) < -1) = false from rfl] at S
    refine wl_nil ?_
    refine xtn ?_
    refine c_condF S ?_
    refine c_exit ?_
    iterate 2 (refine xte ?_)
    refine xbe ?_
    have hrow := S.row p 0
    refine end0 S (fun _ => ?_)
    exact ⟨rfl, hrow⟩
theorem reverse_c (xs : List LTerm) (p : Option Addr) (n c : Nat) (w0 : World) (hn : xs.length = n) (hl : n ≤ 1000) (hown : w0.ownsRow 0 24 5 (.slice p n c) n (encL xs)) :
    Ret Tryd.prog 74 [.slice p n c] w0 (fun k => ∃ ad, p = some ad ∧ k = ad.block) fun v w' => v = .tuple #[] ∧ w'.ownsRow 0 24 5 (.slice p n c) n (encL xs.reverse) := by
  subst hn
  by_cases h0 : xs.length = 0
  · have hx0 : xs = [] := List.eq_nil_of_length_eq_zero h0
    subst hx0
    exact reverse_nil p c w0 hown
  refine enter Tryd.func74 rfl rfl (Wd.rowLent (fs := []) hown nofun) (fun a S => ?_)
  simp only [Tryd.ntmps74, List.length_cons, List.length_nil, Nat.reduceAdd, Nat.reduceSub, List.replicate_succ, List.replicate_zero, List.cons_append, List.nil_append] at S
  refine c_seq ?_
  refine c_region ?_
  iterate 3 (refine sq S ?_; clear S; intro a S)
  rw [w64 _ (by omega) (by omega), show (xs.length : Int) - 1 = ((xs.length - 1 - 0 : Nat) : Int) from by omega] at S
  iterate 2 (refine sq S ?_; clear S; intro a S)
  refine wl_nil ?_
  refine xtn ?_
  refine c_block ?_
  refine c_forf2 S (fun (k : Nat) (ys : List LTerm) uu => [(2, .int .i64 (k : Nat)), (0, .int .i64 ((xs.length - 1 - k : Nat) : Int)), (3, uu 7), (0, uu 8), (0, uu 9), (0, uu 10), (0, uu 11), (0, uu 12), (0, uu 13), (0, uu 14), (0, uu 15), (0, uu 16), (0, uu 17), (0, uu 18), (0, uu 19), (0, uu 20), (0, uu 21), (0, uu 22), (0, uu 23), (0, uu 24), (0, uu 25), (0, uu 26), (0, uu 27)]) (fun (k : Nat) (ys : List LTerm) => [Wk.row 24 5 p xs.length c (encL ys)]) (fun (k : Nat) (ys : List LTerm) => 2 * k ≤ xs.length ∧ ys.length = xs.length ∧ ∀ t < xs.length, nthL ys t = revAt xs k t) (fun (k : Nat) (ys : List LTerm) => xs.length - k) (0) (xs) ?_ S.uu ?_ ?_
  · exact ⟨by omega, rfl, fun t ht => by rw [revAt, if_neg (by omega)]⟩
  · first | exact S | exact S.sub _ _
  · clear S; rintro k ys uu a w ⟨hk, hyl, hys⟩ S
    iterate 2 (refine c_seq ?_)
    refine c_region ?_
    iterate 3 (refine sq S ?_; clear S; intro a S)
    refine wl_nil ?_
    refine xtn ?_
    refine c_cond S (fun h1 => ?_) (fun h1 => ?_)
    · refine c_skip ?_
      refine xtn ?_
      refine c_seq ?_
      refine c_block ?_
      have hkl : k < xs.length - 1 - k := by simp at h1; omega
      have hK1 : KLt k xs.length := ⟨by omega⟩
      have hK2 : KLt (xs.length - 1 - k) xs.length := ⟨by omega⟩
      have hPS : PS p := PS.of (S.row p xs.length) (by omega)
      refine c_drwf1 (.q 0 (.q 1 (.q 2 (.q 3 (.q 4 (.q 5 (.q 6 (.q 8 (.q 9 (.q 10 (.b2 7 11 (.l 11 (.q 12 (.l 13 (.q 14 (.l 15 (.e)))))) (.l 7 (.q 12 (.l 13 (.q 14 (.l 15 (.e))))))))))))))))) S (fun (zs : List LTerm) uu => [(14, uu 14), (0, uu 15), (0, uu 16), (0, uu 17), (0, uu 18), (0, uu 19), (0, uu 20), (0, uu 21), (0, uu 22), (0, uu 23), (0, uu 24), (0, uu 25), (0, uu 26), (0, uu 27)]) [] (fun (zs : List LTerm) => [Wk.row 24 5 p xs.length c (encL zs)]) (fun (zs : List LTerm) => zs.length = xs.length ∧ ∀ t < xs.length, nthL zs t = revAt xs (k + 1) t) ?_ ?_
      · intro w S
        iterate 10 (refine tq S ?_; clear S; intro a S)
        refine tb2 ?_ ?_
        · refine slrA (nthL ys (xs.length - 1 - k)).cells S xs.length (fun j v hj => ?_) ?_
          · have hj5 : j < 5 := (List.getElem?_eq_some_iff.1 hj).1
            rw [← hj]; exact encL_get ys _ _ (nth_get (by omega)) j hj5
          clear S; intro a S
          refine te S ?_
          refine tl ?_
          refine slrA (nthL ys k).cells S xs.length (fun j v hj => ?_) ?_
          · have hj5 : j < 5 := (List.getElem?_eq_some_iff.1 hj).1
            rw [← hj]; exact encL_get ys _ _ (nth_get (by omega)) j hj5
          clear S; intro a S
          refine te S ?_
          refine tq S ?_; clear S; intro a S
          refine tl ?_
          refine sws S xs.length (by omega) (by omega) ?_; clear S; intro a w S
          rw [encL_setG _ _ _ (by first | omega | (simp; omega))] at S
          refine te S ?_
          refine tq S ?_; clear S; intro a S
          refine tl ?_
          refine sws S xs.length (by omega) (by omega) ?_; clear S; intro a w S
          rw [encL_setG _ _ _ (by first | omega | (simp; omega))] at S
          refine te S ?_
          refine tn ?_
          refine ⟨(ys.set k (nthL ys (xs.length - 1 - k))).set (xs.length - 1 - k) (nthL ys k), S.uu, ⟨by simpa using hyl, fun t ht => ?_⟩, S.sub _ _⟩
          rw [nthL_set _ _ _ _ (by simp; omega), nthL_set _ _ _ _ (by omega)]
          have e1 := hys k (by omega)
          have e2 := hys (xs.length - 1 - k) (by omega)
          rw [revAt, if_neg (by omega)] at e1 e2
          rw [e1, e2, revAt]
          split
          · rename_i h; subst h
            rw [if_pos (by omega)]; congr 1; omega
          · rename_i h
            split
            · rename_i h2; subst h2
              rw [if_pos (by omega)]
            · rename_i h2
              rw [hys t ht, revAt]
              by_cases h3 : t < k ∨ xs.length ≤ t + k
              · rw [if_pos h3, if_pos (by omega)]
              · rw [if_neg h3, if_neg (by omega)]
        · refine slrA (nthL ys k).cells S xs.length (fun j v hj => ?_) ?_
          · have hj5 : j < 5 := (List.getElem?_eq_some_iff.1 hj).1
            rw [← hj]; exact encL_get ys _ _ (nth_get (by omega)) j hj5
          clear S; intro a S
          refine te S ?_
          refine tl ?_
          refine slrA (nthL ys (xs.length - 1 - k)).cells S xs.length (fun j v hj => ?_) ?_
          · have hj5 : j < 5 := (List.getElem?_eq_some_iff.1 hj).1
            rw [← hj]; exact encL_get ys _ _ (nth_get (by omega)) j hj5
          clear S; intro a S
          refine te S ?_
          refine tq S ?_; clear S; intro a S
          refine tl ?_
          refine sws S xs.length (by omega) (by omega) ?_; clear S; intro a w S
          rw [encL_setG _ _ _ (by first | omega | (simp; omega))] at S
          refine te S ?_
          refine tq S ?_; clear S; intro a S
          refine tl ?_
          refine sws S xs.length (by omega) (by omega) ?_; clear S; intro a w S
          rw [encL_setG _ _ _ (by first | omega | (simp; omega))] at S
          refine te S ?_
          refine tn ?_
          refine ⟨(ys.set k (nthL ys (xs.length - 1 - k))).set (xs.length - 1 - k) (nthL ys k), S.uu, ⟨by simpa using hyl, fun t ht => ?_⟩, S.sub _ _⟩
          rw [nthL_set _ _ _ _ (by simp; omega), nthL_set _ _ _ _ (by omega)]
          have e1 := hys k (by omega)
          have e2 := hys (xs.length - 1 - k) (by omega)
          rw [revAt, if_neg (by omega)] at e1 e2
          rw [e1, e2, revAt]
          split
          · rename_i h; subst h
            rw [if_pos (by omega)]; congr 1; omega
          · rename_i h
            split
            · rename_i h2; subst h2
              rw [if_pos (by omega)]
            · rename_i h2
              rw [hys t ht, revAt]
              by_cases h3 : t < k ∨ xs.length ≤ t + k
              · rw [if_pos h3, if_pos (by omega)]
              · rw [if_neg h3, if_neg (by omega)]
      clear S; rintro zs uu a w ⟨hzl, hzs⟩ S
      refine xbn ?_
      refine xtn ?_
      refine c_region ?_
      iterate 2 (refine sq S ?_; clear S; intro a S)
      rw [w64 _ (by omega) (by omega)] at S
      iterate 2 (refine sq S ?_; clear S; intro a S)
      rw [w64 _ (by omega) (by omega), show ((xs.length - 1 - k : Nat) : Int) - 1 = ((xs.length - 1 - (k + 1) : Nat) : Int) from by omega] at S
      iterate 2 (refine sq S ?_; clear S; intro a S)
      refine wl_nil ?_
      refine xtn ?_
      exact ⟨k + 1, zs, S.uu, ⟨by omega, hzl, hzs⟩, S.sub _ _, by omega⟩
    · refine c_exit ?_
      iterate 2 (refine xte ?_)
      refine xbe ?_
      have hrow := S.row p xs.length
      have e : ys = xs.reverse := by
        apply List.ext_getElem?
        intro t
        rcases Nat.lt_or_ge t xs.length with ht | ht
        · rw [nth_get (show t < ys.length by omega), hys t ht, List.getElem?_reverse ht, nth_get (show xs.length - 1 - t < xs.length by omega), revAt]
          split
          · rfl
          · rename_i h
            have h1' : xs.length - 1 - k ≤ k := by simp at h1; omega
            congr 2; omega
        · rw [List.getElem?_eq_none (by omega), List.getElem?_eq_none (by simp; omega)]
      rw [e] at hrow
      refine end0 S (fun _ => ?_)
      exact ⟨rfl, hrow⟩
end Go.Proofs.YtieeoakdkbackaaDoor

/- Package tree: Proof. -/
namespace Go.Proofs.YtieeoakdkbackaaDoor
open Go Go.Wk
set_option synthInstance.maxSize 100000
set_option synthInstance.maxHeartbeats 400000
set_option maxRecDepth 100000

theorem pathT_one {l : List LMark} {i : Nat} (h : l.length ≤ 1) : pathT l i = [] := by rw [pathT, dif_pos h]
theorem pathT_r {l : List LMark} {i : Nat} (h : 2 ≤ l.length) (hi : i < halfN l.length) : pathT l i = .pair (textT [114]) (rootT (l.drop (halfN l.length))) :: pathT (l.take (halfN l.length)) i := by
  conv => lhs; rw [pathT]
  rw [dif_neg (by omega), if_pos hi]
theorem pathT_l {l : List LMark} {i : Nat} (h : 2 ≤ l.length) (hi : ¬ i < halfN l.length) : pathT l i = .pair (textT [108]) (rootT (l.take (halfN l.length))) :: pathT (l.drop (halfN l.length)) (i - halfN l.length) := by
  conv => lhs; rw [pathT]
  rw [dif_neg (by omega), if_neg hi]
def ProofR (M : Nat → Prop) (l : List LMark) (key : List UInt8) (v : Value) (w : World) : Prop := ∃ (p : Option Addr) (c : Nat) (os : List LTerm) (e : Int), v = .tuple ⟨[.slice p os.length c, .int .i64 e]⟩ ∧ Stable M w (LsF p 0 os) ∧
  (okM l = false → e = 240 ∧ os = []) ∧ (okM l = true → key ∉ l.map LMark.key → e = 4 ∧ os = []) ∧ (okM l = true → key ∈ l.map LMark.key → e = 0 ∧ ∃ i, i < l.length ∧ (nthG l i).key = key ∧ os.map LTerm.t = (pathT l i).reverse)
theorem tproof_c (l : List LMark) (p : Option Addr) (c : Nat) (key : List UInt8) (M : Nat → Prop) (w0 : World) (hc : l.length ≤ c) (hl : l.length ≤ 1000000) (hM : ∀ k, M k → k < w0.heap.size) (ht : Stable M w0 TabF) (hx : Stable M w0 (GlF p l)) :
    Ret Tryd.prog 27 [.slice p l.length c, str key] w0 (fun _ => False) fun v w' => ProofR M l key v w' := by
  have hLe : LeC l.length 9223372036854775807 := ⟨by omega⟩
  refine enter Tryd.func27 rfl rfl (Wd.beginM (M := M) (fs := [TabF, GlF p l]) hM (by simp; exact ⟨ht, hx⟩)) (fun a S => ?_)
  simp only [Tryd.ntmps27, List.length_cons, List.length_nil, Nat.reduceAdd, Nat.reduceSub, List.replicate_succ, List.replicate_zero, List.cons_append, List.nil_append] at S
  refine c_seq ?_
  refine c_region ?_
  iterate 2 (refine sq S ?_; clear S; intro a S)
  refine wl_nil ?_
  refine xtn ?_
  iterate 2 (refine c_seq ?_)
  refine c_region ?_
  refine sq S ?_; clear S; intro a S
  refine sc S ?_; clear S; intro a w S
  refine sq S ?_; clear S; intro a S
  refine wl_nil ?_
  refine xtn ?_
  refine c_seq ?_
  refine c_region ?_
  iterate 2 (refine sq S ?_; clear S; intro a S)
  refine wl_nil ?_
  refine xtn ?_
  refine c_cond S (fun h2 => ?_) (fun h2 => ?_)
  · refine c_seq ?_
    refine c_region ?_
    iterate 3 (refine sq S ?_; clear S; intro a S)
    refine wl_nil ?_
    refine xtn ?_
    refine c_ret ?_
    refine xtr ?_
    have hb : okM l = false := by
      cases h : okM l with
      | false => rfl
      | true => simp [tchkF, h] at h2
    have e : tchkF l = 240 := by simp [tchkF, hb]
    refine end2 S (fun _ => ?_)
    refine ⟨none, 0, [], _, rfl, fun w' _ => by simp [LsF, LsIn], fun _ => ⟨e, rfl⟩, fun h => ?_, fun h => ?_⟩
    · rw [hb] at h; cases h
    · rw [hb] at h; cases h
  · refine c_skip ?_
    refine xtn ?_
    refine c_seq ?_
    have hb : okM l = true := by
      cases h : okM l with
      | true => rfl
      | false => simp [tchkF, h] at h2
    obtain ⟨v1, v2, v3, v4⟩ := okV l hb
    refine c_region ?_
    iterate 2 (refine sq S ?_; clear S; intro a S)
    refine sr S (tfind_c l p c key _ (by omega) (S.gl0 p) v4) ?_; clear S; rintro _ a w ⟨i0, rfl, hi0⟩ S
    iterate 5 (refine sq S ?_; clear S; intro a S)
    refine wl_nil ?_
    refine xtn ?_
    iterate 2 (refine c_seq ?_)
    refine c_region ?_
    iterate 2 (refine sq S ?_; clear S; intro a S)
    refine wl_nil ?_
    refine xtn ?_
    refine c_cond S (fun h5 => ?_) (fun h5 => ?_)
    · refine c_seq ?_
      refine c_region ?_
      iterate 2 (refine sq S ?_; clear S; intro a S)
      refine wl_nil ?_
      refine xtn ?_
      refine c_ret ?_
      refine xtr ?_
      have hno : key ∉ l.map LMark.key := by simpa using h5
      refine end2 S (fun _ => ?_)
      refine ⟨none, 0, [], 4, rfl, fun w' _ => by simp [LsF, LsIn], fun h => ?_, fun _ _ => ⟨rfl, rfl⟩, fun _ h => absurd h hno⟩
      rw [hb] at h; cases h
    · refine c_skip ?_
      refine xtn ?_
      refine c_seq ?_
      refine c_region ?_
      refine sq S ?_; clear S; intro a S
      refine wl_nil ?_
      refine xtn ?_
      refine c_seq ?_
      refine c_block ?_
      have hin : key ∈ l.map LMark.key := by simpa using h5
      obtain ⟨hil, hik⟩ := hi0 hin
      replace S := S.addNil 24 5
      refine c_fore5 S (fun (sl : Sl LMark) (i : Nat) (os : List LTerm) (po : Option Addr) (co : Nat) uu => [(0, .slice sl.p sl.xs.length sl.cap), (6, .int .i64 (i : Nat)), (1, .slice po os.length co), (0, uu 10), (13, uu 24), (0, uu 25), (0, uu 26), (0, uu 27), (0, uu 28), (0, uu 29), (0, uu 30), (0, uu 31), (0, uu 32), (0, uu 33), (0, uu 34), (0, uu 35), (0, uu 36), (0, uu 37), (0, uu 38), (0, uu 39), (0, uu 40), (0, uu 41), (0, uu 42), (0, uu 43), (0, uu 44), (0, uu 45), (0, uu 46), (0, uu 47), (0, uu 48), (0, uu 49), (0, uu 50), (0, uu 51), (0, uu 52), (0, uu 53), (0, uu 54), (0, uu 55), (0, uu 56), (0, uu 57), (0, uu 58), (0, uu 59)]) (fun (sl : Sl LMark) (i : Nat) (os : List LTerm) (po : Option Addr) (co : Nat) => [Wk.row 24 5 po os.length co (encL os), ext M]) (fun (sl : Sl LMark) (i : Nat) (os : List LTerm) (po : Option Addr) (co : Nat) => [AllI os, TabF, GlF sl.p sl.xs]) (fun (sl : Sl LMark) (i : Nat) (os : List LTerm) (po : Option Addr) (co : Nat) => i < sl.xs.length ∧ sl.xs.length ≤ sl.cap ∧ sl.xs.length ≤ 16 ∧ (∀ m ∈ sl.xs, 0 ≤ m.ver ∧ m.ver ≤ 65535) ∧ os.map LTerm.t ++ pathT sl.xs i = pathT l i0 ∧ os.length + sl.xs.length ≤ 16) (fun (sl : Sl LMark) (i : Nat) (os : List LTerm) (po : Option Addr) (co : Nat) => sl.xs.length) (⟨p, c, l⟩) (i0) ([]) (none) (0) ?_ S.uu ?_ ?_
      · exact ⟨hil, hc, v1, v2, rfl, by simpa using v1⟩
      · exact S.add (Φ := AllI (α := LTerm) []) AllI.nil
      · clear S; rintro sl i os po co uu a w ⟨hi, hsc, hs16, hsv, hpath, hos⟩ S
        iterate 2 (refine c_seq ?_)
        refine c_region ?_
        iterate 3 (refine sq S ?_; clear S; intro a S)
        refine wl_nil ?_
        refine xtn ?_
        refine c_cond S (fun h8 => ?_) (fun h8 => ?_)
        · refine c_skip ?_
          refine xtn ?_
          refine c_block ?_
          refine c_seq ?_
          have h2s : 2 ≤ sl.xs.length := by simp at h8; omega
          have hA : halfN sl.xs.length < sl.xs.length ∧ 0 < halfN sl.xs.length := by unfold halfN; omega
          have hlt : (sl.xs.take (halfN sl.xs.length)).length = halfN sl.xs.length := by rw [List.length_take]; omega
          have hld : (sl.xs.drop (halfN sl.xs.length)).length = sl.xs.length - halfN sl.xs.length := List.length_drop
          have hL1 : LeC (halfN sl.xs.length) sl.cap := ⟨by omega⟩
          have hL2 : LeC (halfN sl.xs.length) sl.xs.length := ⟨by omega⟩
          have hL3 : LeC sl.xs.length sl.cap := ⟨hsc⟩
          refine c_region ?_
          iterate 2 (refine sq S ?_; clear S; intro a S)
          refine sr S (half_c sl.xs.length (by omega) _) ?_; clear S; rintro _ a w rfl S
          refine sq S ?_; clear S; intro a S
          refine wl_nil ?_
          refine xtn ?_
          refine c_seq ?_
          refine c_region ?_
          iterate 3 (refine sq S ?_; clear S; intro a S)
          refine wl_nil ?_
          refine xtn ?_
          refine c_cond S (fun h10 => ?_) (fun h10 => ?_)
          · refine c_seq ?_
            have hih : i < halfN sl.xs.length := by simp at h10; omega
            have hpr := pathT_r h2s hih
            have hg := S.gl sl.p (xs := sl.xs)
            replace S := (S.add (Φ := GlF (if sl.cap = halfN sl.xs.length then sl.p else sl.p.map (·.add (halfN sl.xs.length * 2))) (sl.xs.drop (halfN sl.xs.length))) (hg.imp fun _ h => h.drop _ hsc)).add (Φ := GlF sl.p (sl.xs.take (halfN sl.xs.length))) (hg.imp fun _ h => h.take _)
            replace S := S.add (Φ := LtF (textL [114])) (fun _ _ => by simp [LtIn, textL, LsIn, LtF])
            refine c_drawE [(0, true), (2, true), (3, true), (4, true), (1, false), (5, false), (6, false), (7, false), (8, false), (9, true)] [ext M] S ?_; clear S; intro w S
            iterate 4 (refine dq S ?_; clear S; intro a S)
            refine dl ?_
            refine sc S ?_; clear S; intro a w S
            refine de S ?_
            refine dl ?_
            refine sr S (root_c _ (sl.xs.drop (halfN sl.xs.length)) (if sl.cap = halfN sl.xs.length then sl.p else sl.p.map (·.add (halfN sl.xs.length * 2))) (sl.xs.length - halfN sl.xs.length) (sl.cap - halfN sl.xs.length) _ w (Nat.lt_succ_self _) hld (by omega) (by omega) (fun m hm => hsv m (List.drop_subset _ _ hm)) (foots_lt S) (S.mem.fact TabF) (S.mem.fact (GlF (if sl.cap = halfN sl.xs.length then sl.p else sl.p.map (·.add (halfN sl.xs.length * 2))) (sl.xs.drop (halfN sl.xs.length))))) ?_; clear S; rintro _ a w ⟨r1, rfl, hr1, hrf1⟩ S
            replace S := S.add hrf1
            refine de S ?_
            refine dl ?_
            refine sr S (pair_c (textL [114]) r1 _ w (foots_lt S) (S.t _) (S.t r1)) ?_; clear S; rintro _ a w ⟨r, rfl, hr, hrf⟩ S
            replace S := S.add hrf
            refine de S ?_
            refine dl ?_
            refine sn S ?_; clear S; intro b40 a w S
            refine de S ?_
            refine dl ?_
            refine sap S (by simp [maxLen]; omega) (by omega) ?_; clear S; rintro p11 c11 a w - S
            rw [show encL os ++ r.cells = encL (os ++ [r]) from by rw [encL_append, encT_cells], show os.length + 1 = (os ++ [r]).length from by simp] at S
            refine de S ?_
            refine dq S ?_; clear S; intro a S
            refine dn ?_
            refine xtn ?_
            refine c_region ?_
            iterate 4 (refine sq S ?_; clear S; intro a S)
            refine wl_nil ?_
            refine xbn ?_
            refine xtn ?_
            have h1 := S.wd.facts (AllI os) (by simp)
            have h2 := S.t r
            replace S := S.add (AllI.snoc h1 h2)
            obtain ⟨s2, hs2⟩ : ∃ s2 : Sl LMark, s2 = ⟨sl.p, sl.cap, sl.xs.take (halfN sl.xs.length)⟩ := ⟨_, rfl⟩
            have e1 : s2.p = sl.p := by rw [hs2]
            have e2 : s2.cap = sl.cap := by rw [hs2]
            have e3 : s2.xs = sl.xs.take (halfN sl.xs.length) := by rw [hs2]
            have e4 : s2.xs.length = halfN sl.xs.length := by rw [e3, hlt]
            replace S := S.add (Φ := GlF s2.p s2.xs) (by rw [e1, e3]; exact S.mem.fact (GlF sl.p (sl.xs.take (halfN sl.xs.length))))
            rw [show Value.slice sl.p (halfN sl.xs.length) sl.cap = .slice s2.p s2.xs.length s2.cap from by rw [e1, e2, e4]] at S
            replace S := S.sub [Wk.row 24 5 p11 (os ++ [r]).length c11 (encL (os ++ [r])), ext M] [GlF s2.p s2.xs, AllI (os ++ [r]), TabF]
            replace S := S.add (S.wd.facts TabF (by simp))
            replace S := S.add (S.wd.facts (AllI (os ++ [r])) (by simp))
            refine ⟨s2, i, os ++ [r], p11, c11, S.uu, ⟨by omega, by omega, by omega, fun m hm => hsv m (List.take_subset _ _ (by rw [← e3]; exact hm)), ?_, by simp only [List.length_append, List.length_singleton]; omega⟩, S.sub _ _, by omega⟩
            rw [e3]
            rw [← hpath, hpr, List.map_append, List.append_assoc]
            simp only [List.map_cons, List.map_nil, List.cons_append, List.nil_append, hr, hr1]
            rfl
          · refine c_seq ?_
            have hih : ¬ i < halfN sl.xs.length := by simp at h10; omega
            have hpl := pathT_l h2s hih
            have hg := S.gl sl.p (xs := sl.xs)
            replace S := (S.add (Φ := GlF (if sl.cap = halfN sl.xs.length then sl.p else sl.p.map (·.add (halfN sl.xs.length * 2))) (sl.xs.drop (halfN sl.xs.length))) (hg.imp fun _ h => h.drop _ hsc)).add (Φ := GlF sl.p (sl.xs.take (halfN sl.xs.length))) (hg.imp fun _ h => h.take _)
            replace S := S.add (Φ := LtF (textL [108])) (fun _ _ => by simp [LtIn, textL, LsIn, LtF])
            refine c_drawE [(0, true), (2, true), (3, true), (4, true), (1, false), (5, false), (6, false), (7, false), (8, false), (9, true)] [ext M] S ?_; clear S; intro w S
            iterate 4 (refine dq S ?_; clear S; intro a S)
            refine dl ?_
            refine sc S ?_; clear S; intro a w S
            refine de S ?_
            refine dl ?_
            refine sr S (root_c _ (sl.xs.take (halfN sl.xs.length)) sl.p (halfN sl.xs.length) sl.cap _ w (Nat.lt_succ_self _) hlt (by omega) (by omega) (fun m hm => hsv m (List.take_subset _ _ hm)) (foots_lt S) (S.mem.fact TabF) (S.mem.fact (GlF sl.p (sl.xs.take (halfN sl.xs.length))))) ?_; clear S; rintro _ a w ⟨r1, rfl, hr1, hrf1⟩ S
            replace S := S.add hrf1
            refine de S ?_
            refine dl ?_
            refine sr S (pair_c (textL [108]) r1 _ w (foots_lt S) (S.t _) (S.t r1)) ?_; clear S; rintro _ a w ⟨r, rfl, hr, hrf⟩ S
            replace S := S.add hrf
            refine de S ?_
            refine dl ?_
            refine sn S ?_; clear S; intro b52 a w S
            refine de S ?_
            refine dl ?_
            refine sap S (by simp [maxLen]; omega) (by omega) ?_; clear S; rintro p11 c11 a w - S
            rw [show encL os ++ r.cells = encL (os ++ [r]) from by rw [encL_append, encT_cells], show os.length + 1 = (os ++ [r]).length from by simp] at S
            refine de S ?_
            refine dq S ?_; clear S; intro a S
            refine dn ?_
            refine xtn ?_
            refine c_region ?_
            iterate 6 (refine sq S ?_; clear S; intro a S)
            rw [w64 _ (by omega) (by omega), show (i : Int) - ((halfN sl.xs.length : Nat) : Int) = ((i - halfN sl.xs.length : Nat) : Int) from by omega] at S
            iterate 2 (refine sq S ?_; clear S; intro a S)
            refine wl_nil ?_
            refine xbn ?_
            refine xtn ?_
            have h1 := S.wd.facts (AllI os) (by simp)
            have h2 := S.t r
            replace S := S.add (AllI.snoc h1 h2)
            obtain ⟨s2, hs2⟩ : ∃ s2 : Sl LMark, s2 = ⟨if sl.cap = halfN sl.xs.length then sl.p else sl.p.map (·.add (halfN sl.xs.length * 2)), sl.cap - halfN sl.xs.length, sl.xs.drop (halfN sl.xs.length)⟩ := ⟨_, rfl⟩
            have e1 : s2.p = if sl.cap = halfN sl.xs.length then sl.p else sl.p.map (·.add (halfN sl.xs.length * 2)) := by rw [hs2]
            have e2 : s2.cap = sl.cap - halfN sl.xs.length := by rw [hs2]
            have e3 : s2.xs = sl.xs.drop (halfN sl.xs.length) := by rw [hs2]
            have e4 : s2.xs.length = sl.xs.length - halfN sl.xs.length := by rw [e3, hld]
            replace S := S.add (Φ := GlF s2.p s2.xs) (by rw [e1, e3]; exact S.mem.fact (GlF (if sl.cap = halfN sl.xs.length then sl.p else sl.p.map (·.add (halfN sl.xs.length * 2))) (sl.xs.drop (halfN sl.xs.length))))
            rw [show Value.slice (if sl.cap = halfN sl.xs.length then sl.p else sl.p.map (·.add (halfN sl.xs.length * 2))) (sl.xs.length - halfN sl.xs.length) (sl.cap - halfN sl.xs.length) = .slice s2.p s2.xs.length s2.cap from by rw [e1, e2, e4]] at S
            replace S := S.sub [Wk.row 24 5 p11 (os ++ [r]).length c11 (encL (os ++ [r])), ext M] [GlF s2.p s2.xs, AllI (os ++ [r]), TabF]
            replace S := S.add (S.wd.facts TabF (by simp))
            replace S := S.add (S.wd.facts (AllI (os ++ [r])) (by simp))
            refine ⟨s2, i - halfN sl.xs.length, os ++ [r], p11, c11, S.uu, ⟨by omega, by omega, by omega, fun m hm => hsv m (List.drop_subset _ _ (by rw [← e3]; exact hm)), ?_, by simp only [List.length_append, List.length_singleton]; omega⟩, S.sub _ _, by omega⟩
            rw [e3]
            rw [← hpath, hpl, List.map_append, List.append_assoc]
            simp only [List.map_cons, List.map_nil, List.cons_append, List.nil_append, hr, hr1]
            rfl
        · refine c_exit ?_
          iterate 2 (refine xte ?_)
          refine xbe ?_
          refine xtn ?_
          refine c_seq ?_
          refine c_region ?_
          refine sq S ?_; clear S; intro a S
          refine sit (Wk.row 24 5 po os.length co (encL os)) S (reverse_c os po os.length co w rfl (by omega) (S.row po _)) rfl ?_; clear S; rintro _ a w ⟨rfl, hown⟩ hS
          have S := hS (Wk.row 24 5 po os.length co (encL os.reverse)) hown (fun k hk => .inl hk)
          clear hS
          refine wl_nil ?_
          refine xtn ?_
          refine c_seq ?_
          refine c_region ?_
          iterate 3 (refine sq S ?_; clear S; intro a S)
          refine wl_nil ?_
          refine xtn ?_
          refine c_ret ?_
          have hrow := S.row po os.length
          have hnew := S.rowNew po os.length
          have hall := S.laterFact (Φ := AllI os) (by simp)
          have hall2 : Stable M w (AllI os.reverse) := hall.imp fun _ h x hx => h x (List.mem_reverse.1 hx)
          have hdone : sl.xs.length ≤ 1 := by simp at h8; omega
          rw [pathT_one hdone, List.append_nil] at hpath
          refine end2 S (fun _ => ?_)
          refine ⟨po, co, os.reverse, 0, by rw [List.length_reverse], ?_, fun h => ?_, fun _ h => absurd hin h, fun _ _ => ⟨rfl, i0, hil, hik, by rw [List.map_reverse, hpath]⟩⟩
          · exact (gl_own hrow hall2 (fun ad h hm => (hnew ad h).elim (fun h => h.elim) (fun h2 => by have := hM _ hm; omega))).imp fun _ h => gl_ls h
          · rw [hb] at h; cases h
end Go.Proofs.YtieeoakdkbackaaDoor

/- Package tree: Proves, Write. -/
namespace Go.Proofs.YtieeoakdkbackaaDoor
open Go Go.Wk
set_option synthInstance.maxSize 100000
set_option synthInstance.maxHeartbeats 400000
set_option maxRecDepth 100000

theorem good_plain {k u n : Int} {s : List UInt8} {ks : List Term} (h : Good (.mk k u n s ks)) : plainF k u n s ks.length = true := by
  have hw := good_walk.1 h
  rw [walkF] at hw
  cases hp : plainF k u n s ks.length with
  | true => rfl
  | false => simp [hp] at hw
theorem good_two {x : LTerm} (h : Good x.t) (hk : x.kind = 4) : x.kids.length = 2 := by
  rw [x.t_eq] at h
  have hp := good_plain h
  rcases plain_shape hp with q | q | q | q | q | q | q
  all_goals first | (obtain ⟨-, -, -, -, q⟩ := q; simpa using q) | omega
/-- one step up, if the term may be. -/
noncomputable def stepG (x : Option Term) (p : Term) : Option Term := @ite _ (Good p) (Classical.propDecidable _) (stepT x p) none
theorem stepG_bad {x : Option Term} {p : Term} (h : ¬ Good p) : stepG x p = none := by unfold stepG; rw [if_neg h]
theorem stepG_ok {x : Option Term} {p : Term} (h : Good p) : stepG x p = stepT x p := by unfold stepG; rw [if_pos h]
theorem stepT_none {p : Term} : stepT none p = none := rfl
theorem stepG_none {p : Term} : stepG none p = none := by
  by_cases h : Good p
  · rw [stepG_ok h, stepT_none]
  · exact stepG_bad h
theorem foldG_none : ∀ ps : List Term, ps.foldl stepG none = none
  | [] => rfl
  | p :: ps => by rw [List.foldl_cons, stepG_none, foldG_none ps]
theorem stepT_eq {x : Term} {k u n : Int} {s : List UInt8} {a b : Term} (hk : k = 4) (ha : (match a with | .mk k' _ _ _ _ => k') = 1) : stepT (some x) (.mk k u n s [a, b]) = (if (match a with | .mk _ _ _ s' _ => s') = [108] then some (joinT b x) else if (match a with | .mk _ _ _ s' _ => s') = [114] then some (joinT x b) else none) := by
  subst hk
  obtain ⟨k', u', n', s', ks'⟩ := a
  simp only at ha
  subst ha
  rfl
theorem stepT_kind {x : Term} {k u n : Int} {s : List UInt8} {ks : List Term} (hk : k ≠ 4) : stepT (some x) (.mk k u n s ks) = none := by
  unfold stepT
  split
  · rename_i h1 h2; simp at h2; exact absurd h2.1 hk
  · rfl
theorem stepT_kid {x : Term} {k u n : Int} {s : List UInt8} {a b : Term} (ha : (match a with | .mk k' _ _ _ _ => k') ≠ 1) : stepT (some x) (.mk k u n s [a, b]) = none := by
  obtain ⟨k', u', n', s', ks'⟩ := a
  unfold stepT
  split
  · rename_i h1 h2; simp at h2; exact absurd h2.2.2.2.2.1.1 ha
  · rfl
noncomputable def upG (m : LMark) (ps : List Term) : Option Term := ps.foldl stepG (some (leafT m))
theorem t_kind (x : LTerm) : (match x.t with | .mk k' _ _ _ _ => k') = x.kind := by rw [x.t_eq]
theorem t_text (x : LTerm) : (match x.t with | .mk _ _ _ s' _ => s') = x.text := by rw [x.t_eq]
theorem step_l {x : Term} {p : LTerm} (hk : p.kind = 4) (hl : p.kids.length = 2) : stepT (some x) p.t = if (nthL p.kids 0).kind = 1 then (if (nthL p.kids 0).text = [108] then some (joinT (nthL p.kids 1).t x) else if (nthL p.kids 0).text = [114] then some (joinT x (nthL p.kids 1).t) else none) else none := by
  obtain ⟨u, v, huv⟩ : ∃ u v, p.kids = [u, v] := by
    match h : p.kids, hl with
    | [u, v], _ => exact ⟨u, v, rfl⟩
  have e0 : nthL p.kids 0 = u := by rw [huv]; rfl
  have e1 : nthL p.kids 1 = v := by rw [huv]; rfl
  rw [e0, e1, p.t_eq, huv, List.map_cons, List.map_cons, List.map_nil]
  by_cases h : u.kind = 1
  · rw [if_pos h, stepT_eq hk (by rw [t_kind]; exact h), t_text]
  · rw [if_neg h, stepT_kid (by rw [t_kind]; exact h)]
noncomputable def provesB (r : Term) (m : LMark) (ps : List Term) : Bool := markB m && decide (checkF r = 0) && decide ((ps.length : Int) ≤ 8) && @decide (upG m ps = some r) (Classical.propDecidable _)
theorem proves_c (r : LTerm) (m : LMark) (ps : List LTerm) (p : Option Addr) (c : Nat) (w0 : World) (hl : ps.length ≤ 1000000) (hr : Stable (fun _ => False) w0 (LtF r)) (hps : Stable (fun _ => False) w0 (LsF p 0 ps)) (ht : Stable (fun _ => False) w0 TabF) :
    Ret Tryd.prog 68 [vL r, vMark m, .slice p ps.length c] w0 (fun _ => False) fun v _ => v = .bool (provesB r.t m (ps.map LTerm.t)) := by
  refine enter Tryd.func68 rfl rfl (Wd.begin (fs := [TabF, LtF r, LsF p 0 ps]) (by simp; exact ⟨ht, hr, hps⟩)) (fun a S => ?_)
  simp only [Tryd.ntmps68, List.length_cons, List.length_nil, Nat.reduceAdd, Nat.reduceSub, List.replicate_succ, List.replicate_zero, List.cons_append, List.nil_append] at S
  refine c_seq ?_
  refine c_region ?_
  refine sa S ?_; clear S; intro b3 a w S
  refine sa S ?_; clear S; intro b4 a w S
  refine sq S ?_; clear S; intro a S
  refine wl_nil ?_
  refine xtn ?_
  iterate 2 (refine c_seq ?_)
  refine c_region ?_
  refine sq S ?_; clear S; intro a S
  refine sc S ?_; clear S; intro a w S
  iterate 2 (refine sq S ?_; clear S; intro a S)
  refine gQ S ?_; clear S; intro a S
  refine gC S ?_; clear S; intro a w S
  refine gQ S ?_; clear S; intro a S
  iterate 2 (refine sq S ?_; clear S; intro a S)
  iterate 3 (refine gQ S ?_; clear S; intro a S)
  refine sq S ?_; clear S; intro a S
  refine wl_nil ?_
  refine xtn ?_
  refine c_cond S (fun h1 => ?_) (fun h1 => ?_)
  · refine c_seq ?_
    refine c_region ?_
    refine sq S ?_; clear S; intro a S
    refine wl_nil ?_
    refine xtn ?_
    refine c_ret ?_
    refine xtr ?_
    have h1' : ¬ (markB m = true ∧ checkF r.t = 0 ∧ (ps.length : Int) ≤ 8) := by
      rintro ⟨a1, a2, a3⟩
      rw [a1, a2] at h1
      simp at h1
      omega
    refine end1 S (fun _ => ?_)
    have : provesB r.t m (ps.map LTerm.t) = false := by
      unfold provesB
      rw [Bool.and_eq_false_iff]
      left
      cases hm : markB m <;> simp [hm] at h1' ⊢
      exact h1'
    rw [this]
  · refine c_skip ?_
    refine xtn ?_
    refine c_seq ?_
    have h1' : markB m = true ∧ checkF r.t = 0 ∧ (ps.length : Int) ≤ 8 := by
      refine ⟨?_, ?_, ?_⟩
      · cases hm : markB m with
        | true => rfl
        | false => rw [hm] at h1; simp at h1
      · simp only [Bool.or_eq_false_iff] at h1
        simpa using h1.1.2
      · simp only [Bool.or_eq_false_iff] at h1
        have := h1.2
        simp at this; omega
    obtain ⟨hm1, hr0, hp8⟩ := h1'
    have hmv : 0 ≤ m.ver ∧ m.ver ≤ 65535 := by
      simp only [markB, Bool.and_eq_true, decide_eq_true_eq] at hm1
      exact ⟨hm1.1.2, hm1.2⟩
    have hval : provesB r.t m (ps.map LTerm.t) = @decide (upG m (ps.map LTerm.t) = some r.t) (Classical.propDecidable _) := by
      unfold provesB
      rw [hm1, hr0]
      have : decide (((ps.map LTerm.t).length : Int) ≤ 8) = true := by rw [List.length_map]; exact decide_eq_true hp8
      rw [this]; simp
    refine c_region ?_
    refine sq S ?_; clear S; intro a S
    refine sr S (tleaf_c m _ w hmv (foots_lt S) (S.mem.fact TabF)) ?_; clear S; rintro _ a w ⟨x0, rfl, hx0, hxf⟩ S
    replace S := S.add hxf
    refine sa S ?_; clear S; intro b7 a w S
    refine sw S ?_; clear S; intro a w S
    refine wl_nil ?_
    refine xtn ?_
    iterate 2 (refine c_seq ?_)
    refine c_region ?_
    iterate 3 (refine sq S ?_; clear S; intro a S)
    refine wl_nil ?_
    refine xtn ?_
    refine c_block ?_
    replace S := S.boxToF b3
    replace S := S.boxToF b4
    refine c_fore2 S (fun (k : Nat) (x : LTerm) uu => [(6, uu 6), (2, uu 9), (17, .int .i64 (k : Nat)), (0, uu 28), (0, uu 29), (0, uu 30), (0, uu 31), (0, uu 32), (0, uu 33), (0, uu 34), (0, uu 35), (0, uu 36), (0, uu 37), (0, uu 38), (0, uu 39), (0, uu 40), (0, uu 41), (0, uu 42), (0, uu 43), (0, uu 44), (0, uu 45), (0, uu 46), (0, uu 47), (0, uu 48), (0, uu 49), (0, uu 50), (0, uu 51), (0, uu 52), (0, uu 53), (0, uu 54), (0, uu 55), (0, uu 56), (0, uu 57), (0, uu 58), (0, uu 59), (0, uu 60), (0, uu 61), (0, uu 62), (0, uu 63), (0, uu 64), (0, uu 65), (0, uu 66), (0, uu 67), (0, uu 68)]) (fun (k : Nat) (x : LTerm) => [Wk.box b7 24 x.cells]) (fun (k : Nat) (x : LTerm) => [LtF x, BoxF b3 24 r.cells, LtF r, LsF p 0 ps]) (fun (k : Nat) (x : LTerm) => k ≤ ps.length ∧ ((ps.map LTerm.t).drop k).foldl stepG (some x.t) = upG m (ps.map LTerm.t)) (fun (k : Nat) (x : LTerm) => ps.length - k) (0) (x0) ?_ S.uu ?_ ?_
    · exact ⟨Nat.zero_le _, by rw [hx0]; rfl⟩
    · have h9 := S.t x0
      exact (S.add h9).sub _ _
    · clear S; rintro k x uu a w ⟨hk, hrel⟩ S
      refine c_seq ?_
      refine c_region ?_
      refine sq S ?_; clear S; intro a S
      refine wl_nil ?_
      refine xtn ?_
      refine c_seq ?_
      refine c_cond S (fun h5 => ?_) (fun h5 => ?_)
      · refine c_skip ?_
        refine xtn ?_
        refine c_seq ?_
        refine c_block ?_
        refine c_seq ?_
        have hkl : k < ps.length := by simp at h5; omega
        have hK : KLt k ps.length := ⟨hkl⟩
        have hdr : (ps.map LTerm.t).drop k = (nthL ps k).t :: (ps.map LTerm.t).drop (k + 1) := by
          rw [List.drop_eq_getElem_cons (by simpa using hkl)]
          congr 1
          simp [nthL, hkl]
        rw [hdr, List.foldl_cons] at hrel
        have hfalse : stepG (some x.t) (nthL ps k).t = none → provesB r.t m (ps.map LTerm.t) = false := fun h => by
          rw [h, foldG_none] at hrel
          rw [hval, ← hrel]; simp
        refine c_region ?_
        iterate 2 (refine sq S ?_; clear S; intro a S)
        refine sa S ?_; clear S; intro b9 a w S
        refine sw S ?_; clear S; intro a w S
        refine wl_nil ?_
        refine xtn ?_
        iterate 2 (refine c_seq ?_)
        refine c_region ?_
        refine sq S ?_; clear S; intro a S
        refine sc S ?_; clear S; intro a w S
        iterate 2 (refine sq S ?_; clear S; intro a S)
        refine gS S (fun hg1 S => ?_) (fun hg1 S => ?_)
        · refine gF' S ?_; clear S; intro a S
          iterate 2 (refine gF' S ?_; clear S; intro a S)
          iterate 2 (refine sq S ?_; clear S; intro a S)
          iterate 6 (refine gF' S ?_; clear S; intro a S)
          refine sq S ?_; clear S; intro a S
          refine wl_nil ?_
          refine xtn ?_
          refine c_condT S ?_
          refine c_seq ?_
          refine c_region ?_
          refine sq S ?_; clear S; intro a S
          refine wl_nil ?_
          refine xtn ?_
          refine c_ret ?_
          refine xtr ?_
          refine xbr ?_
          iterate 2 (refine xtr ?_)
          refine xbr ?_
          refine xtr ?_
          have hb : ¬ Good (nthL ps k).t := fun h => by rw [good_check.2 h] at hg1; simp at hg1
          refine end1 S (fun _ => ?_)
          rw [hfalse (stepG_bad hb)]
        · refine gT' S ?_
          refine sq S ?_; clear S; intro a S
          refine gT' S ?_
          refine sq S ?_; clear S; intro a S
          refine gT' S ?_
          iterate 3 (refine sq S ?_; clear S; intro a S)
          refine gS S (fun hg2 S => ?_) (fun hg2 S => ?_)
          · refine gF' S ?_; clear S; intro a S
            iterate 5 (refine gF' S ?_; clear S; intro a S)
            refine sq S ?_; clear S; intro a S
            refine wl_nil ?_
            refine xtn ?_
            refine c_condT S ?_
            refine c_seq ?_
            refine c_region ?_
            refine sq S ?_; clear S; intro a S
            refine wl_nil ?_
            refine xtn ?_
            refine c_ret ?_
            refine xtr ?_
            refine xbr ?_
            iterate 2 (refine xtr ?_)
            refine xbr ?_
            refine xtr ?_
            have hk4 : (nthL ps k).kind ≠ 4 := by simpa using hg2
            have hG : Good (nthL ps k).t := good_check.1 (by simpa using hg1)
            refine end1 S (fun _ => ?_)
            rw [hfalse (by rw [stepG_ok hG, (nthL ps k).t_eq]; exact stepT_kind hk4)]
          · refine gT' S ?_
            have hG : Good (nthL ps k).t := good_check.1 (by simpa using hg1)
            have hk4 : (nthL ps k).kind = 4 := by simpa using hg2
            have hl2 := good_two hG hk4
            have hK0 : KLt 0 (nthL ps k).kids.length := ⟨by omega⟩
            have hK1 : KLt 1 (nthL ps k).kids.length := ⟨by omega⟩
            rw [stepG_ok hG, step_l hk4 hl2] at hrel hfalse
            refine sq S ?_; clear S; intro a S
            refine gT' S ?_
            refine sq S ?_; clear S; intro a S
            refine gT' S ?_
            refine sq S ?_; clear S; intro a S
            refine gT' S ?_
            refine sq S ?_; clear S; intro a S
            refine gT' S ?_
            refine sq S ?_; clear S; intro a S
            refine gT' S ?_
            iterate 2 (refine sq S ?_; clear S; intro a S)
            refine wl_nil ?_
            refine xtn ?_
            refine c_cond S (fun h7 => ?_) (fun h7 => ?_)
            · refine c_seq ?_
              refine c_region ?_
              refine sq S ?_; clear S; intro a S
              refine wl_nil ?_
              refine xtn ?_
              refine c_ret ?_
              refine xtr ?_
              refine xbr ?_
              iterate 2 (refine xtr ?_)
              refine xbr ?_
              refine xtr ?_
              have hk1 : (nthL (nthL ps k).kids 0).kind ≠ 1 := by simpa using h7
              refine end1 S (fun _ => ?_)
              rw [hfalse (by rw [if_neg hk1])]
            · refine c_skip ?_
              refine xtn ?_
              refine c_seq ?_
              have hk1 : (nthL (nthL ps k).kids 0).kind = 1 := by simpa using h7
              rw [if_pos hk1] at hrel hfalse
              refine c_region ?_
              iterate 5 (refine sq S ?_; clear S; intro a S)
              refine wl_nil ?_
              refine xtn ?_
              refine c_block ?_
              refine c_seq ?_
              refine c_region ?_
              iterate 2 (refine sq S ?_; clear S; intro a S)
              refine wl_nil ?_
              refine xtn ?_
              refine c_cond S (fun h11 => ?_) (fun h11 => ?_)
              · refine c_drwe1 (.q 0 (.q 1 (.q 2 (.q 3 (.l 4 (.l 5 (.l 6 (.e)))))))) S (fun (y : LTerm) uu => [(54, uu 54), (0, uu 55), (0, uu 56), (0, uu 57), (0, uu 58), (0, uu 59)]) [Wk.box b9 24 (nthL ps k).cells] (fun (y : LTerm) => [Wk.box b7 24 y.cells]) (fun (y : LTerm) => [LtF y, BoxF b3 24 r.cells, LtF r, LsF p 0 ps]) (fun (y : LTerm) => y.t = joinT (nthL (nthL ps k).kids 1).t x.t) ?_ ?_
                · intro w S
                  iterate 4 (refine tq S ?_; clear S; intro a S)
                  refine tl ?_
                  refine sq S ?_; clear S; intro a S
                  refine te S ?_
                  refine tl ?_
                  refine sr S (tjoin_c (nthL (nthL ps k).kids 1) x _ w (foots_lt S) (S.t _) (S.t x)) ?_; clear S; rintro _ a w ⟨y, rfl, hy, hyf⟩ S
                  replace S := S.add hyf
                  refine te S ?_
                  refine tl ?_
                  refine sw S ?_; clear S; intro a w S
                  refine te S ?_
                  refine tn ?_
                  exact ⟨y, S.uu, hy, S.sub _ _⟩
                clear S; rintro y uu a w hy S
                iterate 2 (refine xbn ?_)
                refine xtn ?_
                refine c_region ?_
                iterate 2 (refine sq S ?_; clear S; intro a S)
                refine wl_nil ?_
                refine xtn ?_
                have ht : (nthL (nthL ps k).kids 0).text = [108] := by simpa using h11
                rw [if_pos ht, ← hy] at hrel
                rw [w64 ((k : Int) + 1) (by omega) (by omega)] at S
                exact ⟨k + 1, y, S.uu, ⟨hkl, hrel⟩, S.sub _ _, by omega⟩
              · refine c_seq ?_
                refine c_region ?_
                iterate 2 (refine sq S ?_; clear S; intro a S)
                refine wl_nil ?_
                refine xtn ?_
                refine c_cond S (fun h13 => ?_) (fun h13 => ?_)
                · refine c_drwe1 (.q 1 (.q 2 (.q 3 (.q 4 (.l 0 (.l 5 (.l 6 (.e)))))))) S (fun (y : LTerm) uu => [(62, uu 62), (0, uu 63), (0, uu 64), (0, uu 65), (0, uu 66), (0, uu 67)]) [Wk.box b9 24 (nthL ps k).cells] (fun (y : LTerm) => [Wk.box b7 24 y.cells]) (fun (y : LTerm) => [LtF y, BoxF b3 24 r.cells, LtF r, LsF p 0 ps]) (fun (y : LTerm) => y.t = joinT x.t (nthL (nthL ps k).kids 1).t) ?_ ?_
                  · intro w S
                    iterate 4 (refine tq S ?_; clear S; intro a S)
                    refine tl ?_
                    refine sq S ?_; clear S; intro a S
                    refine te S ?_
                    refine tl ?_
                    refine sr S (tjoin_c x (nthL (nthL ps k).kids 1) _ w (foots_lt S) (S.t x) (S.t _)) ?_; clear S; rintro _ a w ⟨y, rfl, hy, hyf⟩ S
                    replace S := S.add hyf
                    refine te S ?_
                    refine tl ?_
                    refine sw S ?_; clear S; intro a w S
                    refine te S ?_
                    refine tn ?_
                    exact ⟨y, S.uu, hy, S.sub _ _⟩
                  clear S; rintro y uu a w hy S
                  iterate 2 (refine xbn ?_)
                  refine xtn ?_
                  refine c_region ?_
                  iterate 2 (refine sq S ?_; clear S; intro a S)
                  refine wl_nil ?_
                  refine xtn ?_
                  have ht : ¬ (nthL (nthL ps k).kids 0).text = [108] := by simpa using h11
                  have ht2 : (nthL (nthL ps k).kids 0).text = [114] := by simpa using h13
                  rw [if_neg ht, if_pos ht2, ← hy] at hrel
                  rw [w64 ((k : Int) + 1) (by omega) (by omega)] at S
                  exact ⟨k + 1, y, S.uu, ⟨hkl, hrel⟩, S.sub _ _, by omega⟩
                · refine c_seq ?_
                  refine c_region ?_
                  refine sq S ?_; clear S; intro a S
                  refine wl_nil ?_
                  refine xtn ?_
                  refine c_ret ?_
                  iterate 2 (refine xbr ?_)
                  iterate 2 (refine xtr ?_)
                  refine xbr ?_
                  refine xtr ?_
                  have ht : ¬ (nthL (nthL ps k).kids 0).text = [108] := by simpa using h11
                  have ht2 : ¬ (nthL (nthL ps k).kids 0).text = [114] := by simpa using h13
                  refine end1 S (fun _ => ?_)
                  rw [hfalse (by rw [if_neg ht, if_neg ht2])]
      · refine c_exit ?_
        iterate 2 (refine xte ?_)
        refine xbe ?_
        refine xtn ?_
        refine c_seq ?_
        refine c_region ?_
        iterate 2 (refine sq S ?_; clear S; intro a S)
        refine sc S ?_; clear S; intro a w S
        refine sq S ?_; clear S; intro a S
        refine wl_nil ?_
        refine xtn ?_
        refine c_ret ?_
        rw [List.drop_of_length_le (by simp at h5 ⊢; omega)] at hrel
        have hrel' : some x.t = upG m (ps.map LTerm.t) := hrel
        have key : sameF x.t r.t = @decide (some x.t = some r.t) (Classical.propDecidable _) := by
          cases h : sameF x.t r.t with
          | true => exact (@decide_eq_true _ (Classical.propDecidable _) (by rw [(sameF_iff _ _).1 h])).symm
          | false => exact (@decide_eq_false _ (Classical.propDecidable _) (fun e => by rw [(sameF_iff _ _).2 (Option.some.inj e)] at h; cases h)).symm
        refine end1 S (fun _ => ?_)
        rw [hval, ← hrel', key]
def rowM (m : LMark) : Term := .pair (textT m.key) (textT (Lib.itoa m.ver))
def writeT (l : List LMark) : Term := listT (l.map rowM)
theorem twrite_c (l : List LMark) (p : Option Addr) (c : Nat) (M : Nat → Prop) (w0 : World) (hl : l.length ≤ 1000000) (hM : ∀ k, M k → k < w0.heap.size) (ht : Stable M w0 TabF) (hx : Stable M w0 (GlF p l)) :
    Ret Tryd.prog 66 [.slice p l.length c] w0 (fun _ => False) fun v w' => RootR M (okM l) (writeT l) v w' := by
  have hLe : LeC l.length 9223372036854775807 := ⟨by omega⟩
  refine enter Tryd.func66 rfl rfl (Wd.beginM (M := M) (fs := [TabF, GlF p l]) hM (by simp; exact ⟨ht, hx⟩)) (fun a S => ?_)
  simp only [Tryd.ntmps66, List.length_cons, List.length_nil, Nat.reduceAdd, Nat.reduceSub, List.replicate_succ, List.replicate_zero, List.cons_append, List.nil_append] at S
  refine c_seq ?_
  refine c_region ?_
  refine sa S ?_; clear S; intro b2 a w S
  refine sq S ?_; clear S; intro a S
  refine wl_nil ?_
  refine xtn ?_
  iterate 2 (refine c_seq ?_)
  refine c_region ?_
  refine sq S ?_; clear S; intro a S
  refine sc S ?_; clear S; intro a w S
  refine sq S ?_; clear S; intro a S
  refine wl_nil ?_
  refine xtn ?_
  refine c_seq ?_
  refine c_region ?_
  iterate 2 (refine sq S ?_; clear S; intro a S)
  refine wl_nil ?_
  refine xtn ?_
  refine c_cond S (fun h2 => ?_) (fun h2 => ?_)
  · refine c_seq ?_
    refine c_region ?_
    iterate 2 (refine sq S ?_; clear S; intro a S)
    refine sw S ?_; clear S; intro a w S
    refine sq S ?_; clear S; intro a S
    refine wl_nil ?_
    refine xtn ?_
    refine c_ret ?_
    refine xtr ?_
    have hb : okM l = false := by
      cases h : okM l with
      | false => rfl
      | true => simp [tchkF, h] at h2
    have e : tchkF l = 240 := by simp [tchkF, hb]
    refine end2 S (fun _ => ?_)
    exact ⟨zeroL, _, rfl, fun w' _ => by simp [zeroL, LtIn, LsIn, LtF], (fun h => by rw [hb] at h; cases h), fun _ => ⟨e, rfl⟩⟩
  · refine c_skip ?_
    refine xtn ?_
    refine c_seq ?_
    have hb : okM l = true := by
      cases h : okM l with
      | true => rfl
      | false => simp [tchkF, h] at h2
    obtain ⟨v1, v2, v3, v4⟩ := okV l hb
    refine c_region ?_
    refine sq S ?_; clear S; intro a S
    refine wl_nil ?_
    refine xtn ?_
    iterate 2 (refine c_seq ?_)
    refine c_region ?_
    iterate 3 (refine sq S ?_; clear S; intro a S)
    refine wl_nil ?_
    refine xtn ?_
    refine c_block ?_
    replace S := S.addNil 24 5
    refine c_fore4 S (fun (k : Nat) (os : List LTerm) (po : Option Addr) (co : Nat) uu => [(5, .slice po os.length co), (1, uu 7), (8, .int .i64 (k : Nat)), (0, uu 17), (0, uu 18), (0, uu 19), (0, uu 20), (0, uu 21), (0, uu 22), (0, uu 23), (0, uu 24), (0, uu 25)]) (fun (k : Nat) (os : List LTerm) (po : Option Addr) (co : Nat) => [Wk.row 24 5 po os.length co (encL os), Wk.box b2 24 zeroL.cells, ext M]) (fun (k : Nat) (os : List LTerm) (po : Option Addr) (co : Nat) => [AllI os, TabF, GlF p l]) (fun (k : Nat) (os : List LTerm) (po : Option Addr) (co : Nat) => k ≤ l.length ∧ os.length = k ∧ os.map LTerm.t = (l.take k).map rowM) (fun (k : Nat) (os : List LTerm) (po : Option Addr) (co : Nat) => l.length - k) (0) ([]) (none) (0) ?_ S.uu ?_ ?_
    · exact ⟨Nat.zero_le _, rfl, rfl⟩
    · exact S.add (Φ := AllI (α := LTerm) []) AllI.nil
    · clear S; rintro k os po co uu a w ⟨hk, hol, hos⟩ S
      refine c_seq ?_
      refine c_region ?_
      refine sq S ?_; clear S; intro a S
      refine wl_nil ?_
      refine xtn ?_
      refine c_seq ?_
      refine c_cond S (fun h6 => ?_) (fun h6 => ?_)
      · refine c_skip ?_
        refine xtn ?_
        refine c_seq ?_
        refine c_block ?_
        refine c_seq ?_
        have hkl : k < l.length := by simp at h6; omega
        have hK : KLt k l.length := ⟨hkl⟩
        refine c_region ?_
        iterate 2 (refine sq S ?_; clear S; intro a S)
        refine sa S ?_; clear S; intro b7 a w S
        refine sw S ?_; clear S; intro a w S
        refine wl_nil ?_
        refine xtn ?_
        refine c_region ?_
        iterate 2 (refine sq S ?_; clear S; intro a S)
        refine sr S (trow_c (nthG l k) _ w (v2 _ (nthG_mem hkl)) (foots_lt S) (S.mem.fact TabF)) ?_; clear S; rintro _ a w ⟨r, rfl, hr, hrf⟩ S
        replace S := S.add hrf
        refine sn S ?_; clear S; intro b23 a w S
        refine sap S (by simp [maxLen]; omega) (by omega) ?_; clear S; rintro p8 c8 a w - S
        rw [show encL os ++ r.cells = encL (os ++ [r]) from by rw [encL_append, encT_cells], show os.length + 1 = (os ++ [r]).length from by simp] at S
        refine sq S ?_; clear S; intro a S
        refine wl_nil ?_
        refine xbn ?_
        refine xtn ?_
        refine c_region ?_
        iterate 2 (refine sq S ?_; clear S; intro a S)
        refine wl_nil ?_
        refine xtn ?_
        have h1 := S.wd.facts (AllI os) (by simp)
        have h2 := S.t r
        replace S := S.add (AllI.snoc h1 h2)
        rw [w64 ((k : Int) + 1) (by omega) (by omega)] at S
        exact ⟨k + 1, os ++ [r], p8, c8, S.uu, ⟨hkl, by simp [hol], by rw [List.map_append, hos, nthG_take hkl, List.map_append]; simp [hr, rowM]⟩, S.sub _ _, by omega⟩
      · refine c_exit ?_
        iterate 2 (refine xte ?_)
        refine xbe ?_
        refine xtn ?_
        refine c_seq ?_
        rw [List.take_of_length_le (by simp at h6; omega)] at hos
        have hall := S.wd.facts (AllI os) (by simp)
        replace S := S.rowToGl (e := 24) (sz := 5) (n := os.length) (c := co) po os hall
        refine c_region ?_
        refine sq S ?_; clear S; intro a S
        refine sr S (list_c os po co _ w (by omega) (foots_lt S) ((S.gl po (xs := os)).imp fun _ h => gl_ls h)) ?_; clear S; rintro _ a w ⟨r, rfl, hr, hrf⟩ S
        replace S := S.add hrf
        refine sw S ?_; clear S; intro a w S
        refine sq S ?_; clear S; intro a S
        refine wl_nil ?_
        refine xtn ?_
        refine c_ret ?_
        have hlat := S.laterT (M := M) r
        refine end2 S (fun _ => ?_)
        exact ⟨r, 0, rfl, hlat, fun _ => ⟨rfl, by rw [hr, hos]; rfl⟩, fun h => by rw [hb] at h; cases h⟩
end Go.Proofs.YtieeoakdkbackaaDoor

/- Package tree: Read. -/
namespace Go.Proofs.YtieeoakdkbackaaDoor
open Go Go.Wk
set_option synthInstance.maxSize 100000
set_option synthInstance.maxHeartbeats 400000
set_option maxRecDepth 100000

instance : IfT Tryd.prog 114 := ⟨by kernel_rfl⟩
def VarF (name : String) : World → Prop := fun w => ∃ tp p, w.var? Tryd.prog name = some #[.iface tp p]
theorem atoi_c (s : List UInt8) (hs : s.length ≤ 1000) (w0 : World) (h1 : VarF "strconv.ErrSyntax" w0) (h2 : VarF "strconv.ErrRange" w0) : Ret Tryd.prog 83 [str s] w0 (fun _ => False) fun v _ => ∃ (n : Int) (b : Bool) (te : TypeId) (pe : Value), v = .tuple ⟨[.int .i64 n, errV b te pe]⟩ ∧ (-9223372036854775808 ≤ n ∧ n ≤ 9223372036854775807) ∧ (b = true ↔ ∃ m, Lib.atoiAll s = .ok m) ∧ (∀ m, Lib.atoiAll s = .ok m → n = m) := by
  obtain ⟨tp1, p1, hv1⟩ := h1
  obtain ⟨tp2, p2, hv2⟩ := h2
  have hsz : (⟨s.toArray⟩ : ByteArray).size = s.length := rfl
  rcases h : Lib.atoiAll s with m | _ | _
  · refine Calls.mono (Any.strconv_Atoi_ok Tryd.laysC172 ⟨s.toArray⟩ (by rw [hsz]; omega) m h w0) ?_
    rintro e w' ⟨rfl, hw⟩
    refine ⟨_, rfl, ?_, m, true, 0, .nilIface, rfl, Lib.atoiAll_bounds h, ⟨fun _ => ⟨m, rfl⟩, fun _ => rfl⟩, fun m' e => by injection e⟩
    rcases hw with rfl | ⟨t, rfl⟩
    · exact Agree.refl _ _
    · exact ⟨rfl, rfl, rfl, by rw [Lib.bytesWorld_size]; omega, fun k hk _ => Lib.bytesWorld_at_old _ _ _ k hk⟩
  · refine Calls.mono (Any.strconv_Atoi_syntax_var Tryd.laysC172 ⟨s.toArray⟩ (by rw [hsz]; omega) h tp1 p1 w0 hv1) ?_
    rintro e w' ⟨N, rfl, hN, -, hb⟩
    refine ⟨_, rfl, ?_, 0, false, _, _, rfl, ⟨by omega, by omega⟩, ⟨nofun, fun ⟨m, e⟩ => by cases e⟩, fun m e => by cases e⟩
    exact Agree.ofBelow hb
  · refine Calls.mono (Any.strconv_Atoi_range_var Tryd.laysC172 ⟨s.toArray⟩ (by rw [hsz]; omega) h tp2 p2 w0 hv2) ?_
    rintro e w' ⟨N, rfl, hN, -, hb⟩
    refine ⟨_, rfl, ?_, Lib.atoiSat s, false, _, _, rfl, Lib.atoiSat_bounds s, ⟨nofun, fun ⟨m, e⟩ => by cases e⟩, fun m e => by cases e⟩
    exact Agree.ofBelow hb
theorem VarF.stable {name : String} {w : World} (h : VarF name w) : Stable (fun _ => False) w (VarF name) := fun w' hw' => by
  obtain ⟨tp, p, hv⟩ := h
  exact ⟨tp, p, var_agree hv hw'⟩
/-- the library's variables stand. -/
def LibF : World → Prop := fun w => TabF w ∧ VarF "strconv.ErrSyntax" w ∧ VarF "strconv.ErrRange" w
theorem LibF.stable {w : World} (h : LibF w) : Stable (fun _ => False) w LibF := fun w' hw' => ⟨h.1.stable w' hw', h.2.1.stable w' hw', h.2.2.stable w' hw'⟩
def ReadR (M : Nat → Prop) (t : Term) (v : Value) (w : World) : Prop := ∃ (p : Option Addr) (c : Nat) (ms : List LMark) (e : Int), v = .tuple ⟨[.slice p ms.length c, .int .i64 e]⟩ ∧ Stable M w (GlF p ms) ∧ ms.length ≤ c ∧
  (e = 0 → okM ms = true ∧ t = writeT ms ∧ Good t) ∧ (e ≠ 0 → e = 240 ∧ ms = [] ∧ ∀ l, okM l = true → t = writeT l → ¬ Good t)
theorem rowM_kid {x : LTerm} {m : LMark} (h : x.t = rowM m) : x.kind = 4 ∧ x.kids.length = 2 ∧ (nthL x.kids 0).kind = 1 ∧ (nthL x.kids 1).kind = 1 ∧ (nthL x.kids 0).text = m.key ∧ (nthL x.kids 1).text = Lib.itoa m.ver := by
  rw [x.t_eq] at h
  simp only [rowM, Term.pair, Term.mk.injEq] at h
  obtain ⟨h1, -, -, -, h5⟩ := h
  have hl : x.kids.length = 2 := by have := congrArg List.length h5; simpa using this
  obtain ⟨u, v, huv⟩ : ∃ u v, x.kids = [u, v] := by
    match h : x.kids, hl with
    | [u, v], _ => exact ⟨u, v, rfl⟩
  have e0 : nthL x.kids 0 = u := by rw [huv]; rfl
  have e1 : nthL x.kids 1 = v := by rw [huv]; rfl
  rw [e0, e1]
  rw [huv] at h5
  simp only [List.map_cons, List.map_nil, List.cons.injEq, and_true] at h5
  have h6 := h5.1
  have h7 := h5.2
  rw [u.t_eq, textT, Term.mk.injEq] at h6
  rw [v.t_eq, textT, Term.mk.injEq] at h7
  exact ⟨h1, hl, h6.1, h7.1, h6.2.2.2.1, h7.2.2.2.1⟩
theorem rowM_of {x : LTerm} (hg : Good x.t) (hk : x.kind = 4) (h0 : (nthL x.kids 0).kind = 1) (h1 : (nthL x.kids 1).kind = 1) {m : LMark} (e0 : (nthL x.kids 0).text = m.key) (e1 : (nthL x.kids 1).text = Lib.itoa m.ver) : x.t = rowM m := by
  obtain ⟨hl, hpr⟩ := good_pr hg hk
  have hg' := hg
  rw [hpr] at hg'
  have key : ∀ {y : LTerm}, Good y.t → y.kind = 1 → y.t = textT y.text := fun {y} hy hk => by
    have h := hy
    rw [y.t_eq] at h
    rcases plain_shape (goodP h) with q | q | q | q | q | q | q
    · have hz : y.kids = [] := List.eq_nil_of_length_eq_zero (by have := q.2.2.2.2; simpa using this)
      rw [y.t_eq, hk, q.2.1, q.2.2.1, hz]; rfl
    all_goals omega
  rw [hpr, key (good_kid hg' (by simp)) h0, key (good_kid hg' (by simp)) h1, e0, e1]; rfl
theorem tread_c (t : LTerm) (M : Nat → Prop) (w0 : World) (hM : ∀ k, M k → k < w0.heap.size) (ht : Stable M w0 LibF) (hf : Stable M w0 (LtF t)) : Ret Tryd.prog 67 [vL t] w0 (fun _ => False) fun v w' => ReadR M t.t v w' := by
  refine enter Tryd.func67 rfl rfl (Wd.beginM (M := M) (fs := [TabF, LibF, LtF t]) hM (by simp; exact ⟨ht.imp fun _ h => h.1, ht, hf⟩)) (fun a S => ?_)
  simp only [Tryd.ntmps67, List.length_cons, List.length_nil, Nat.reduceAdd, Nat.reduceSub, List.replicate_succ, List.replicate_zero, List.cons_append, List.nil_append] at S
  refine c_seq ?_
  refine c_region ?_
  refine sa S ?_; clear S; intro b1 a w S
  iterate 2 (refine sq S ?_; clear S; intro a S)
  refine wl_nil ?_
  refine xtn ?_
  refine c_seq ?_
  refine c_region ?_
  refine sq S ?_; clear S; intro a S
  refine sr S (unlist2_c t _ w (foots_lt S) (S.t t)) ?_; clear S; rintro _ a w ⟨pu, cu, us, b0, rfl, huf, hul, hb1, hb2⟩ S
  replace S := S.add huf
  have hug : ∀ x ∈ us, Good x.t := fun x hx => by
    cases hb : b0 with
    | false => rw [(hb2 hb).1] at hx; cases hx
    | true =>
      obtain ⟨hg, he⟩ := hb1 hb
      rw [he] at hg
      have key : ∀ l : List Term, Good (listT l) → ∀ y ∈ l, Good y := by
        intro l
        induction l with
        | nil => intro _ y hy; cases hy
        | cons a l ih =>
          intro hg y hy
          rcases List.mem_cons.1 hy with rfl | hy
          · exact good_kid hg (by simp)
          · exact ih (good_kid hg (by simp)) y hy
      exact key _ hg _ (List.mem_map.2 ⟨x, hx, rfl⟩)
  have hneg : ∀ l, okM l = true → t.t = writeT l → Good t.t → b0 = true ∧ us.map LTerm.t = l.map rowM := fun l _ he hg => by
    cases hb : b0 with
    | false => exact absurd hg ((hb2 hb).2 _ he)
    | true =>
      refine ⟨rfl, ?_⟩
      have key : ∀ a b : List Term, listT a = listT b → a = b := by
        intro a
        induction a with
        | nil => intro b h; cases b with
          | nil => rfl
          | cons y b => simp [listT, textT, Term.pair] at h
        | cons x a ih => intro b h; cases b with
          | nil => simp [listT, textT, Term.pair] at h
          | cons y b =>
            simp only [listT, Term.pair, Term.mk.injEq, List.cons.injEq, and_true, true_and] at h
            rw [h.1, ih b h.2]
      exact key _ _ (by rw [← (hb1 hb).2, he]; rfl)
  iterate 5 (refine sq S ?_; clear S; intro a S)
  refine wl_nil ?_
  refine xtn ?_
  refine c_seq ?_
  refine c_region ?_
  refine sq S ?_; clear S; intro a S
  refine wl_nil ?_
  refine xtn ?_
  iterate 2 (refine c_seq ?_)
  refine c_region ?_
  iterate 3 (refine sq S ?_; clear S; intro a S)
  refine wl_nil ?_
  refine xtn ?_
  refine c_block ?_
  replace S := S.addNil 51 2
  refine c_fore5 S (fun (k : Nat) (ok : Bool) (ms : List LMark) (po : Option Addr) (co : Nat) uu => [(2, uu 2), (0, uu 3), (1, .bool ok), (0, .slice po ms.length co), (1, uu 8), (0, uu 9), (0, uu 10), (0, uu 11), (7, .int .i64 (k : Nat)), (0, uu 20), (0, uu 21), (0, uu 22), (0, uu 23), (0, uu 24), (0, uu 25), (0, uu 26), (0, uu 27), (0, uu 28), (0, uu 29), (0, uu 30), (0, uu 31), (0, uu 32), (0, uu 33), (0, uu 34), (0, uu 35), (0, uu 36), (0, uu 37), (0, uu 38), (0, uu 39), (0, uu 40), (0, uu 41), (0, uu 42), (0, uu 43), (0, uu 44), (0, uu 45), (0, uu 46), (0, uu 47), (0, uu 48), (0, uu 49), (0, uu 50), (0, uu 51), (0, uu 52), (0, uu 53), (0, uu 54), (0, uu 55), (0, uu 56), (0, uu 57), (0, uu 58), (0, uu 59), (0, uu 60), (0, uu 61), (0, uu 62), (0, uu 63), (0, uu 64), (0, uu 65), (0, uu 66), (0, uu 67), (0, uu 68), (0, uu 69), (0, uu 70), (0, uu 71), (0, uu 72), (0, uu 73)]) (fun (k : Nat) (ok : Bool) (ms : List LMark) (po : Option Addr) (co : Nat) => [Wk.row 51 2 po ms.length co (encL ms), ext M]) (fun (k : Nat) (ok : Bool) (ms : List LMark) (po : Option Addr) (co : Nat) => [LsF pu 0 us, TabF, LibF, LtF t]) (fun (k : Nat) (ok : Bool) (ms : List LMark) (po : Option Addr) (co : Nat) => k ≤ us.length ∧ ms.length = k ∧ (ok = true → b0 = true ∧ (us.take k).map LTerm.t = ms.map rowM) ∧ ∀ l, okM l = true → us.map LTerm.t = l.map rowM → ok = b0 ∧ ms = l.take k) (fun (k : Nat) (ok : Bool) (ms : List LMark) (po : Option Addr) (co : Nat) => us.length - k) (0) (b0) ([]) (none) (0) ?_ S.uu ?_ ?_
  · exact ⟨Nat.zero_le _, rfl, fun h => ⟨h, rfl⟩, fun l _ _ => ⟨rfl, rfl⟩⟩
  · exact S.sub [Wk.row 51 2 none 0 0 [], ext M] [LsF pu 0 us, TabF, LibF, LtF t]
  · clear S; rintro k ok ms po co uu a w ⟨hk, hml, hpos, hne⟩ S
    refine c_seq ?_
    refine c_region ?_
    refine sq S ?_; clear S; intro a S
    refine wl_nil ?_
    refine xtn ?_
    refine c_seq ?_
    refine c_cond S (fun h4 => ?_) (fun h4 => ?_)
    · refine c_skip ?_
      refine xtn ?_
      refine c_seq ?_
      refine c_block ?_
      refine c_seq ?_
      have hkl : k < us.length := by simp at h4; omega
      have hK : KLt k us.length := ⟨hkl⟩
      have hgx := hug _ (nth_mem hkl)
      have hel : ∀ l, us.map LTerm.t = l.map rowM → k < l.length ∧ (nthL us k).t = rowM (nthG l k) := fun l h => by
        have hl : us.length = l.length := by have := congrArg List.length h; simpa using this
        refine ⟨by omega, ?_⟩
        have := congrArg (fun x => x[k]?) h
        simp only [List.getElem?_map, nth_get hkl, nthG_get (show k < l.length by omega), Option.map_some, Option.some.injEq] at this
        exact this
      have hfalse : (∀ l : List LMark, us.map LTerm.t = l.map rowM → False) → ∀ l, okM l = true → t.t = writeT l → ¬ Good t.t := fun h l h1 h2 h3 => h l (hneg l h1 h2 h3).2
      refine c_region ?_
      iterate 2 (refine sq S ?_; clear S; intro a S)
      refine sa S ?_; clear S; intro b8 a w S
      refine sw S ?_; clear S; intro a w S
      refine wl_nil ?_
      refine xtn ?_
      iterate 2 (refine c_seq ?_)
      refine c_region ?_
      iterate 4 (refine sq S ?_; clear S; intro a S)
      refine gS S (fun hg1 S => ?_) (fun hg1 S => ?_)
      · refine gF' S ?_; clear S; intro a S
        iterate 5 (refine gF' S ?_; clear S; intro a S)
        iterate 2 (refine sq S ?_; clear S; intro a S)
        iterate 6 (refine gF' S ?_; clear S; intro a S)
        refine sq S ?_; clear S; intro a S
        refine wl_nil ?_
        refine xtn ?_
        refine c_condT S ?_
        refine c_seq ?_
        refine c_region ?_
        iterate 2 (refine sq S ?_; clear S; intro a S)
        refine wl_nil ?_
        refine xtn ?_
        refine c_ret ?_
        refine xtr ?_
        refine xbr ?_
        iterate 2 (refine xtr ?_)
        refine xbr ?_
        refine xtr ?_
        have hk4 : (nthL us k).kind ≠ 4 := by simpa using hg1
        refine end2 S (fun _ => ?_)
        exact ⟨none, 0, [], 240, rfl, fun w' _ => gl_nil, Nat.le_refl _, fun h => absurd h (by decide), fun _ => ⟨rfl, rfl, hfalse fun l h => hk4 (rowM_kid (hel l h).2).1⟩⟩
      · refine gT' S ?_
        have hk4 : (nthL us k).kind = 4 := by simpa using hg1
        have hl2 := (good_pr hgx hk4).1
        have hK0 : KLt 0 (nthL us k).kids.length := ⟨by omega⟩
        have hK1 : KLt 1 (nthL us k).kids.length := ⟨by omega⟩
        refine sq S ?_; clear S; intro a S
        refine gT' S ?_
        refine sq S ?_; clear S; intro a S
        refine gT' S ?_
        refine sq S ?_; clear S; intro a S
        refine gT' S ?_
        refine sq S ?_; clear S; intro a S
        refine gT' S ?_
        refine sq S ?_; clear S; intro a S
        refine gT' S ?_
        iterate 3 (refine sq S ?_; clear S; intro a S)
        refine gS S (fun hg2 S => ?_) (fun hg2 S => ?_)
        · refine gF' S ?_; clear S; intro a S
          iterate 5 (refine gF' S ?_; clear S; intro a S)
          refine sq S ?_; clear S; intro a S
          refine wl_nil ?_
          refine xtn ?_
          refine c_condT S ?_
          refine c_seq ?_
          refine c_region ?_
          iterate 2 (refine sq S ?_; clear S; intro a S)
          refine wl_nil ?_
          refine xtn ?_
          refine c_ret ?_
          refine xtr ?_
          refine xbr ?_
          iterate 2 (refine xtr ?_)
          refine xbr ?_
          refine xtr ?_
          have hk0 : (nthL (nthL us k).kids 0).kind ≠ 1 := by simpa using hg2
          refine end2 S (fun _ => ?_)
          exact ⟨none, 0, [], 240, rfl, fun w' _ => gl_nil, Nat.le_refl _, fun h => absurd h (by decide), fun _ => ⟨rfl, rfl, hfalse fun l h => hk0 (rowM_kid (hel l h).2).2.2.1⟩⟩
        · refine gT' S ?_
          refine sq S ?_; clear S; intro a S
          refine gT' S ?_
          refine sq S ?_; clear S; intro a S
          refine gT' S ?_
          refine sq S ?_; clear S; intro a S
          refine gT' S ?_
          refine sq S ?_; clear S; intro a S
          refine gT' S ?_
          refine sq S ?_; clear S; intro a S
          refine gT' S ?_
          iterate 2 (refine sq S ?_; clear S; intro a S)
          refine wl_nil ?_
          refine xtn ?_
          refine c_cond S (fun h6 => ?_) (fun h6 => ?_)
          · refine c_seq ?_
            refine c_region ?_
            iterate 2 (refine sq S ?_; clear S; intro a S)
            refine wl_nil ?_
            refine xtn ?_
            refine c_ret ?_
            refine xtr ?_
            refine xbr ?_
            iterate 2 (refine xtr ?_)
            refine xbr ?_
            refine xtr ?_
            have hk1 : (nthL (nthL us k).kids 1).kind ≠ 1 := by simpa using h6
            refine end2 S (fun _ => ?_)
            exact ⟨none, 0, [], 240, rfl, fun w' _ => gl_nil, Nat.le_refl _, fun h => absurd h (by decide), fun _ => ⟨rfl, rfl, hfalse fun l h => hk1 (rowM_kid (hel l h).2).2.2.2.1⟩⟩
          · refine c_skip ?_
            refine xtn ?_
            refine c_seq ?_
            have hk0 : (nthL (nthL us k).kids 0).kind = 1 := by simpa using hg2
            have hk1 : (nthL (nthL us k).kids 1).kind = 1 := by simpa using h6
            have hlen : (nthL (nthL us k).kids 1).text.length ≤ 1000 := by
              have hg' := hgx
              rw [(good_pr hgx hk4).2] at hg'
              have h : Good (nthL (nthL us k).kids 1).t := good_kid hg' (by simp)
              rw [(nthL (nthL us k).kids 1).t_eq] at h
              rcases plain_shape (goodP h) with q | q | q | q | q | q | q
              all_goals omega
            refine c_region ?_
            iterate 6 (refine sq S ?_; clear S; intro a S)
            refine wl_nil ?_
            refine xtn ?_
            refine c_seq ?_
            refine c_region ?_
            refine sq S ?_; clear S; intro a S
            refine sr S (atoi_c (nthL (nthL us k).kids 1).text hlen _ (S.mem.fact0 LibF).now.2.1 (S.mem.fact0 LibF).now.2.2) ?_; clear S; rintro _ a w ⟨n, b, te, pe, rfl, hn, hb, hv⟩ S
            have hI : I64 n := ⟨hn.1, hn.2⟩
            iterate 5 (refine sq S ?_; clear S; intro a S)
            refine wl_nil ?_
            refine xtn ?_
            refine c_seq ?_
            refine c_region ?_
            iterate 2 (refine sq S ?_; clear S; intro a S)
            iterate 2 (refine gQ S ?_; clear S; intro a S)
            iterate 2 (refine sq S ?_; clear S; intro a S)
            refine gQ S ?_; clear S; intro a S
            refine gC S ?_; clear S; intro a w S
            iterate 2 (refine gQ S ?_; clear S; intro a S)
            iterate 2 (refine sq S ?_; clear S; intro a S)
            refine wl_nil ?_
            refine xtn ?_
            refine c_region ?_
            iterate 8 (refine sq S ?_; clear S; intro a S)
            refine sn S ?_; clear S; intro b71 a w S
            refine sap S (by simp [maxLen]; omega) (by omega) ?_; clear S; rintro p11 c11 a w - S
            rw [show encL ms ++ [str (nthL (nthL us k).kids 0).text, .int .i64 n] = encL (ms ++ [⟨(nthL (nthL us k).kids 0).text, n⟩]) from by rw [encL_append]; rfl, show ms.length + 1 = (ms ++ [(⟨(nthL (nthL us k).kids 0).text, n⟩ : LMark)]).length from by simp] at S
            refine sq S ?_; clear S; intro a S
            refine wl_nil ?_
            refine xbn ?_
            refine xtn ?_
            refine c_region ?_
            iterate 2 (refine sq S ?_; clear S; intro a S)
            refine wl_nil ?_
            refine xtn ?_
            have htk : (us.take (k + 1)).map LTerm.t = (us.take k).map LTerm.t ++ [(nthL us k).t] := by rw [List.take_add_one, nth_get hkl, List.map_append]; rfl
            rw [w64 ((k : Int) + 1) (by omega) (by omega)] at S
            refine ⟨k + 1, (ok && b && decide (Lib.itoa n = (nthL (nthL us k).kids 1).text)), ms ++ [(⟨(nthL (nthL us k).kids 0).text, n⟩ : LMark)], p11, c11, S.uu, ⟨hkl, by simp [hml], fun h => ?_, fun l h1 h2 => ?_⟩, S.sub _ _, by omega⟩
            · rw [Bool.and_eq_true, Bool.and_eq_true, decide_eq_true_iff] at h
              obtain ⟨q1, q2⟩ := hpos h.1.1
              refine ⟨q1, ?_⟩
              rw [htk, q2, List.map_append]
              have : (nthL us k).t = rowM ⟨(nthL (nthL us k).kids 0).text, n⟩ := rowM_of hgx hk4 hk0 hk1 rfl h.2.symm
              rw [this]; rfl
            · obtain ⟨q1, q2⟩ := hne l h1 h2
              obtain ⟨r1, r2⟩ := hel l h2
              obtain ⟨-, -, -, -, r3, r4⟩ := rowM_kid r2
              have hver := (okV l h1).2.1 _ (nthG_mem r1)
              have ha : Lib.atoiAll (nthL (nthL us k).kids 1).text = .ok (nthG l k).ver := by rw [r4]; exact atoi_itoa hver
              have hbt : b = true := hb.2 ⟨_, ha⟩
              have hnv := hv _ ha
              have hd : decide (Lib.itoa n = (nthL (nthL us k).kids 1).text) = true := by rw [hnv, r4]; simp
              refine ⟨by rw [q1, hbt, hd]; simp, ?_⟩
              rw [q2, nthG_take r1, r3, hnv]
    · refine c_exit ?_
      iterate 2 (refine xte ?_)
      refine xbe ?_
      refine xtn ?_
      iterate 2 (refine c_seq ?_)
      have hke : k = us.length := by simp at h4; omega
      have hLe : LeC ms.length 9223372036854775807 := ⟨by omega⟩
      have hrow := S.row po ms.length
      have hnew := S.rowNew po ms.length
      have hout : Stable M _ (GlF po ms) := gl_own hrow (fun _ _ _ _ => trivial) (fun ad h hm => (hnew ad h).elim (fun h => h.elim) (fun h2 => by have := hM _ hm; omega))
      have hcap : ms.length ≤ co := own_le hrow
      replace S := S.rowToGl (e := 51) (sz := 2) (n := ms.length) (c := co) po ms (fun _ _ _ _ => trivial)
      refine c_region ?_
      iterate 3 (refine sq S ?_; clear S; intro a S)
      refine gQ S ?_; clear S; intro a S
      refine gC S ?_; clear S; intro a w S
      refine gQ S ?_; clear S; intro a S
      refine sq S ?_; clear S; intro a S
      refine wl_nil ?_
      refine xtn ?_
      refine c_cond S (fun h13 => ?_) (fun h13 => ?_)
      · refine c_seq ?_
        refine c_region ?_
        iterate 2 (refine sq S ?_; clear S; intro a S)
        refine wl_nil ?_
        refine xtn ?_
        refine c_ret ?_
        refine xtr ?_
        refine end2 S (fun _ => ?_)
        refine ⟨none, 0, [], 240, rfl, fun w' _ => gl_nil, Nat.le_refl _, fun h => absurd h (by decide), fun _ => ⟨rfl, rfl, fun l h1 h2 h3 => ?_⟩⟩
        obtain ⟨q1, q2⟩ := hneg l h1 h2 h3
        obtain ⟨q3, q4⟩ := hne l h1 q2
        have hll : us.length = l.length := by have := congrArg List.length q2; simpa using this
        rw [List.take_of_length_le (by omega)] at q4
        rw [q3, q1, q4, tchkF, h1] at h13
        simp at h13
      · refine c_skip ?_
        refine xtn ?_
        refine c_seq ?_
        refine c_region ?_
        iterate 3 (refine sq S ?_; clear S; intro a S)
        refine wl_nil ?_
        refine xtn ?_
        refine c_ret ?_
        have hlat := S.wd.facts (GlF po ms) (by simp)
        have hok : ok = true ∧ okM ms = true := by
          rw [Bool.or_eq_false_iff] at h13
          refine ⟨by simpa using h13.1, ?_⟩
          cases h : okM ms with
          | true => rfl
          | false => have := h13.2; simp [tchkF, h] at this
        obtain ⟨q1, q2⟩ := hpos hok.1
        rw [List.take_of_length_le (by omega)] at q2
        refine end2 S (fun _ => ?_)
        exact ⟨po, co, ms, 0, rfl, hlat.less fun k _ hk => ⟨ext M, by simp, hk⟩, hcap, fun _ => ⟨hok.2, by rw [(hb1 q1).2, q2]; rfl, (hb1 q1).1⟩, fun h => absurd rfl h⟩
end Go.Proofs.YtieeoakdkbackaaDoor

/- The library's variables: what a row's condition gives a walk; a start that meets it. -/
namespace Go.Proofs.YtieeoakdkbackaaDoor
open Go Go.Wk
open Go.ChangeShapes Go.WideShapes Go.ChangeAt Go.RowKit
set_option maxRecDepth 100000

def laidL {H : Type} : List (String × DataW H) := [("math/bits.deBruijn32tab", Rows.laid_math_bits_deBruijn32tab), ("math/bits.deBruijn64tab", Rows.laid_math_bits_deBruijn64tab), ("internal/strconv.uint64pow10", Rows.laid_internal_strconv_uint64pow10), ("strconv.ErrRange", Rows.laid_strconv_ErrRange), ("strconv.ErrSyntax", Rows.laid_strconv_ErrSyntax)]
abbrev synS : ByteArray := { data := #[105, 110, 118, 97, 108, 105, 100, 32, 115, 121, 110, 116, 97, 120] }
abbrev rngS : ByteArray := { data := #[118, 97, 108, 117, 101, 32, 111, 117, 116, 32, 111, 102, 32, 114, 97, 110, 103, 101] }
noncomputable def low : Nat := (World.holding Tryd.prog default ⟨#[], #[], []⟩).heap.size
def setCells (cs : Array Value) : Obj → Obj
  | .cells _ t frozen => .cells cs t frozen
  | o => o
noncomputable def laidWorld (os : Os) : World :=
  let w0 := World.holding Tryd.prog os ⟨#[.cells #[.string synS] 169, .cells #[.string rngS] 169], #[], []⟩
  { w0 with heap := ((((w0.heap.modify 1 (setCells #[.iface 167 (.pointer (some ⟨low, 0, none⟩))])).modify 2 (setCells #[.iface 167 (.pointer (some ⟨low + 1, 0, none⟩))])).modify 3 (setCells #[.int .u64 1, .int .u64 10, .int .u64 100, .int .u64 1000, .int .u64 10000, .int .u64 100000, .int .u64 1000000, .int .u64 10000000, .int .u64 100000000, .int .u64 1000000000, .int .u64 10000000000, .int .u64 100000000000, .int .u64 1000000000000, .int .u64 10000000000000, .int .u64 100000000000000, .int .u64 1000000000000000, .int .u64 10000000000000000, .int .u64 100000000000000000, .int .u64 1000000000000000000, .int .u64 10000000000000000000])).modify 4 (setCells #[.int .u8 0, .int .u8 1, .int .u8 28, .int .u8 2, .int .u8 29, .int .u8 14, .int .u8 24, .int .u8 3, .int .u8 30, .int .u8 22, .int .u8 20, .int .u8 15, .int .u8 25, .int .u8 17, .int .u8 4, .int .u8 8, .int .u8 31, .int .u8 27, .int .u8 13, .int .u8 23, .int .u8 21, .int .u8 19, .int .u8 16, .int .u8 7, .int .u8 26, .int .u8 12, .int .u8 18, .int .u8 6, .int .u8 11, .int .u8 5, .int .u8 10, .int .u8 9])).modify 5 (setCells #[.int .u8 0, .int .u8 1, .int .u8 56, .int .u8 2, .int .u8 57, .int .u8 49, .int .u8 28, .int .u8 3, .int .u8 61, .int .u8 58, .int .u8 42, .int .u8 50, .int .u8 38, .int .u8 29, .int .u8 17, .int .u8 4, .int .u8 62, .int .u8 47, .int .u8 59, .int .u8 36, .int .u8 45, .int .u8 43, .int .u8 51, .int .u8 22, .int .u8 53, .int .u8 39, .int .u8 33, .int .u8 30, .int .u8 24, .int .u8 18, .int .u8 12, .int .u8 5, .int .u8 63, .int .u8 55, .int .u8 48, .int .u8 27, .int .u8 60, .int .u8 41, .int .u8 37, .int .u8 16, .int .u8 46, .int .u8 35, .int .u8 44, .int .u8 21, .int .u8 52, .int .u8 32, .int .u8 23, .int .u8 11, .int .u8 54, .int .u8 26, .int .u8 40, .int .u8 15, .int .u8 34, .int .u8 20, .int .u8 31, .int .u8 10, .int .u8 25, .int .u8 14, .int .u8 19, .int .u8 9, .int .u8 13, .int .u8 8, .int .u8 7, .int .u8 6]) }
theorem laidWorld_met (os : Os) (args : Array Value) : laidMet Tryd.prog laidL ((laidWorld os).forCall (fun _ _ => 0) ⟨#[], args, []⟩).memory :=
  laidMet_of_run' 8 (by kernel_rfl) (by kernel_rfl)
end Go.Proofs.YtieeoakdkbackaaDoor

/- Trees of marks: what is proved is there. -/
namespace Go.Proofs.YtieeoakdkbackaaDoor
open Go Go.Wk
set_option maxRecDepth 100000

theorem fold_GT : ∀ (ps : List Term) (x : Option Term) (t : Term), ps.foldl stepG x = some t → ps.foldl stepT x = some t
  | [], _, _, h => h
  | p :: ps, x, t, h => by
    rw [List.foldl_cons] at h ⊢
    by_cases hg : Good p
    · rw [stepG_ok hg] at h; exact fold_GT ps _ t h
    · rw [stepG_bad hg, foldG_none] at h; cases h
theorem fold_good : ∀ (ps : List Term) (x : Option Term), (∀ p ∈ ps, Good p) → ps.foldl stepG x = ps.foldl stepT x
  | [], _, _ => rfl
  | p :: ps, x, h => by rw [List.foldl_cons, List.foldl_cons, stepG_ok (h p (by simp)), fold_good ps _ fun q hq => h q (by simp [hq])]
theorem step_form {x : Option Term} {p t : Term} (h : stepT x p = some t) : ∃ y z, x = some y ∧ (t = joinT z y ∨ t = joinT y z) := by
  unfold stepT at h
  split at h
  · split at h
    · injection h with h; exact ⟨_, _, rfl, .inl h.symm⟩
    · split at h
      · injection h with h; exact ⟨_, _, rfl, .inr h.symm⟩
      · cases h
  · cases h
theorem fold_h (ps : List Term) : ∀ (x : Option Term) (t : Term), (∀ y, x = some y → IsH y) → ps.foldl stepT x = some t → IsH t := by
  induction ps with
  | nil => intro x t hx h; exact hx t h
  | cons p ps ih =>
    intro x t hx h
    rw [List.foldl_cons] at h
    refine ih _ t (fun y hy => ?_) h
    obtain ⟨a, b, -, e⟩ := step_form hy
    rcases e with rfl | rfl <;> exact ⟨_, rfl⟩
/-- whatever is proved of a root is among its marks. -/
theorem sound_up (N : Nat) : ∀ (ps : List Term) (m : LMark) (l : List LMark), ps.length < N → (0 ≤ m.ver ∧ m.ver ≤ 65535) → (∀ m ∈ l, 0 ≤ m.ver ∧ m.ver ≤ 65535) → upT m ps = some (rootT l) → m ∈ l := by
  induction N with
  | zero => intro ps m l h; exact absurd h (Nat.not_lt_zero _)
  | succ N ih =>
  intro ps m l hN hm hl h
  rcases List.eq_nil_or_concat ps with rfl | ⟨qs, p, rfl⟩
  · have h' : leafT m = rootT l := by injection h
    rcases Nat.lt_trichotomy l.length 1 with h1 | h1 | h1
    · have : l = [] := List.eq_nil_of_length_eq_zero (by omega)
      subst this
      rw [rootT_nil] at h'; simp [leafT, Term.hash, textT] at h'
    · rw [rootT_one h1] at h'
      rw [leafT_inj hm (hl _ (nthG_mem (by omega))) h']; exact nthG_mem (by omega)
    · rw [rootT_two h1] at h'
      exact absurd (root_h (l := l.take (halfN l.length)) (by rw [List.length_take]; unfold halfN; omega)) (leaf_join h').1
  · rw [List.concat_eq_append] at h hN
    rw [upT, List.foldl_append, List.foldl_cons, List.foldl_nil] at h
    obtain ⟨y, z, hy, e⟩ := step_form h
    have hyh : IsH y := fold_h qs _ y (fun a ha => by injection ha with ha; rw [← ha]; exact ⟨_, rfl⟩) hy
    have hq : qs.length < N := by simp at hN; omega
    rcases Nat.lt_trichotomy l.length 1 with h1 | h1 | h1
    · have : l = [] := List.eq_nil_of_length_eq_zero (by omega)
      subst this
      rw [rootT_nil] at e
      rcases e with e | e <;> simp [joinT, Term.hash, textT] at e
    · rw [rootT_one h1] at e
      rcases e with e | e
      · exact absurd hyh (leaf_join e).2
      · exact absurd hyh (leaf_join e).1
    · rw [rootT_two h1] at e
      rcases e with e | e
      · obtain ⟨-, e2⟩ := joinT_inj e
        exact List.drop_subset _ _ (ih qs m _ hq hm (fun m hm => hl m (List.drop_subset _ _ hm)) (by rw [upT, hy, e2]))
      · obtain ⟨e2, -⟩ := joinT_inj e
        exact List.take_subset _ _ (ih qs m _ hq hm (fun m hm => hl m (List.take_subset _ _ hm)) (by rw [upT, hy, e2]))
/-! they may all be -/
def OkV (l : List LMark) : Prop := (∀ m ∈ l, 0 ≤ m.ver ∧ m.ver ≤ 65535) ∧ ∀ m ∈ l, m.key.length ≤ 64
theorem itoa_len {n : Int} (h : 0 ≤ n ∧ n ≤ 65535) : (Lib.itoa n).length ≤ 64 := Nat.le_trans (Lib.itoa_length_le n (by omega) (by omega)) (by omega)
theorem good_rowM {m : LMark} (hv : 0 ≤ m.ver ∧ m.ver ≤ 65535) (hk : m.key.length ≤ 64) : Good (rowM m) ∧ cnt (rowM m) = 3 ∧ dpt (rowM m) = 2 := by
  have e3 : ∀ x, cnt (textT x) = 1 := fun x => by simp [textT, cnt, cntL]
  have e4 : ∀ x, dpt (textT x) = 1 := fun x => by simp [textT, dpt, dptL]
  rw [rowM, cnt_pair, dpt_pair, e3, e3, e4, e4]
  exact ⟨good_pair (good_text hk) (good_text (itoa_len hv)) (by rw [e3, e3]; omega) (by rw [e4]; omega) (by rw [e4]; omega), rfl, rfl⟩
theorem cnt_hash (a : Term) : cnt (.hash a) = 1 + cnt a := by simp [Term.hash, cnt, cntL]
theorem dpt_hash (a : Term) : dpt (.hash a) = 1 + dpt a := by simp [Term.hash, dpt, dptL]
theorem good_leaf {m : LMark} (hv : 0 ≤ m.ver ∧ m.ver ≤ 65535) (hk : m.key.length ≤ 64) : Good (leafT m) ∧ cnt (leafT m) = 4 ∧ dpt (leafT m) = 3 := by
  obtain ⟨h1, h2, h3⟩ := good_rowM hv hk
  have e : leafT m = .hash (rowM m) := rfl
  rw [e, cnt_hash, dpt_hash, h2, h3]
  exact ⟨good_hash h1 (by rw [h2]; omega) (by rw [h3]; omega), rfl, rfl⟩
theorem good_root (N : Nat) : ∀ {l : List LMark}, l.length < N → l.length ≤ 16 → OkV l → Good (rootT l) ∧ cnt (rootT l) ≤ 6 * l.length + (if l.length = 0 then 1 else 0) ∧ (0 < l.length → cnt (rootT l) + 2 ≤ 6 * l.length) ∧ dpt (rootT l) ≤ 1 + 2 * l.length := by
  induction N with
  | zero => intro l h; exact absurd h (Nat.not_lt_zero _)
  | succ N ih =>
  intro l hN h16 hv
  rcases Nat.lt_trichotomy l.length 1 with h1 | h1 | h1
  · have : l = [] := List.eq_nil_of_length_eq_zero (by omega)
    subst this
    rw [rootT_nil]
    exact ⟨good_text (by simp), by simp [textT, cnt, cntL], by simp, by simp [textT, dpt, dptL]⟩
  · obtain ⟨g1, g2, g3⟩ := good_leaf (hv.1 _ (nthG_mem (show 0 < l.length by omega))) (hv.2 _ (nthG_mem (show 0 < l.length by omega)))
    rw [rootT_one h1, g2, g3, h1]
    exact ⟨g1, by simp, by simp, by omega⟩
  · have hA : halfN l.length < l.length ∧ 0 < halfN l.length := by unfold halfN; omega
    have hlt : (l.take (halfN l.length)).length = halfN l.length := by rw [List.length_take]; omega
    have hld : (l.drop (halfN l.length)).length = l.length - halfN l.length := List.length_drop
    obtain ⟨a1, -, a3, a4⟩ := ih (l := l.take (halfN l.length)) (by omega) (by omega) ⟨fun m hm => hv.1 m (List.take_subset _ _ hm), fun m hm => hv.2 m (List.take_subset _ _ hm)⟩
    obtain ⟨b1, -, b3, b4⟩ := ih (l := l.drop (halfN l.length)) (by omega) (by omega) ⟨fun m hm => hv.1 m (List.drop_subset _ _ hm), fun m hm => hv.2 m (List.drop_subset _ _ hm)⟩
    have a3 := a3 (by omega)
    have b3 := b3 (by omega)
    rw [hlt] at a3 a4
    rw [hld] at b3 b4
    rw [rootT_two h1, joinT, cnt_hash, dpt_hash, cnt_pair, dpt_pair]
    have hp := good_pair a1 b1 (by omega) (by omega) (by omega)
    refine ⟨good_hash hp (by rw [cnt_pair]; omega) (by rw [dpt_pair]; omega), ?_, fun _ => ?_, ?_⟩
    · rw [if_neg (by omega)]; omega
    · omega
    · omega
theorem good_path (N : Nat) : ∀ {l : List LMark} {i : Nat}, l.length < N → l.length ≤ 16 → OkV l → ∀ t ∈ pathT l i, Good t := by
  induction N with
  | zero => intro l i h; exact absurd h (Nat.not_lt_zero _)
  | succ N ih =>
  intro l i hN h16 hv t ht
  have et : ∀ x, cnt (textT x) = 1 := fun x => by simp [textT, cnt, cntL]
  have ed : ∀ x, dpt (textT x) = 1 := fun x => by simp [textT, dpt, dptL]
  by_cases h1 : l.length ≤ 1
  · rw [pathT_one h1] at ht; cases ht
  · have hA : halfN l.length < l.length ∧ 0 < halfN l.length := by unfold halfN; omega
    have hlt : (l.take (halfN l.length)).length = halfN l.length := by rw [List.length_take]; omega
    have hld : (l.drop (halfN l.length)).length = l.length - halfN l.length := List.length_drop
    have hva : OkV (l.take (halfN l.length)) := ⟨fun m hm => hv.1 m (List.take_subset _ _ hm), fun m hm => hv.2 m (List.take_subset _ _ hm)⟩
    have hvb : OkV (l.drop (halfN l.length)) := ⟨fun m hm => hv.1 m (List.drop_subset _ _ hm), fun m hm => hv.2 m (List.drop_subset _ _ hm)⟩
    by_cases hi : i < halfN l.length
    · rw [pathT_r (by omega) hi] at ht
      rcases List.mem_cons.1 ht with rfl | ht
      · obtain ⟨b1, -, b3, b4⟩ := good_root _ (Nat.lt_succ_self (l.drop (halfN l.length)).length) (by omega) hvb
        have b3 := b3 (by omega)
        exact good_pair (good_text (by simp)) b1 (by rw [et]; omega) (by rw [ed]; omega) (by omega)
      · exact ih (by omega) (by omega) hva t ht
    · rw [pathT_l (by omega) hi] at ht
      rcases List.mem_cons.1 ht with rfl | ht
      · obtain ⟨b1, -, b3, b4⟩ := good_root _ (Nat.lt_succ_self (l.take (halfN l.length)).length) (by omega) hva
        have b3 := b3 (by omega)
        exact good_pair (good_text (by simp)) b1 (by rw [et]; omega) (by rw [ed]; omega) (by omega)
      · exact ih (by omega) (by omega) hvb t ht
theorem good_write {l : List LMark} (h16 : l.length ≤ 16) (hv : OkV l) : Good (writeT l) := by
  refine (listT_good _ (fun t ht => ?_) (by simp; omega)).1
  obtain ⟨m, hm, rfl⟩ := List.mem_map.1 ht
  obtain ⟨h1, h2, h3⟩ := good_rowM (hv.1 m hm) (hv.2 m hm)
  exact ⟨h1, by omega, by omega⟩
theorem listT_inj : ∀ {a b : List Term}, listT a = listT b → a = b
  | [], [], _ => rfl
  | [], y :: b, h => by simp [listT, textT, Term.pair] at h
  | x :: a, [], h => by simp [listT, textT, Term.pair] at h
  | x :: a, y :: b, h => by
    simp only [listT, Term.pair, Term.mk.injEq, List.cons.injEq, and_true, true_and] at h
    rw [h.1, listT_inj h.2]
theorem write_inj {a b : List LMark} (ha : OkV a) (hb : OkV b) (h : writeT a = writeT b) : a = b := by
  have h1 := listT_inj h
  have key : ∀ {a b : List LMark}, OkV a → OkV b → a.map rowM = b.map rowM → a = b := by
    intro a
    induction a with
    | nil => intro b _ _ h; cases b with
      | nil => rfl
      | cons y b => simp at h
    | cons x a ih => intro b ha hb h; cases b with
      | nil => simp at h
      | cons y b =>
        simp only [List.map_cons, List.cons.injEq] at h
        have e : x = y := leafT_inj (ha.1 x (by simp)) (hb.1 y (by simp)) (by show Term.hash (rowM x) = Term.hash (rowM y); rw [h.1])
        rw [e, ih ⟨fun m hm => ha.1 m (by simp [hm]), fun m hm => ha.2 m (by simp [hm])⟩ ⟨fun m hm => hb.1 m (by simp [hm]), fun m hm => hb.2 m (by simp [hm])⟩ h.2]
  exact key ha hb h1
theorem okM_V {l : List LMark} (h : okM l = true) : l.length ≤ 16 ∧ OkV l := by
  obtain ⟨h1, h2, h3, -⟩ := okV l h
  exact ⟨h1, h2, fun m hm => (h3 m hm).2⟩
/-- of each mark that is there its proof proves it. -/
theorem path_log : ∀ (k : Nat) (l : List LMark) (i : Nat), l.length ≤ 2 ^ k → (pathT l i).length ≤ k
  | 0, l, i, h => by rw [pathT_one (by simpa using h)]; simp
  | k + 1, l, i, h => by
    rw [Nat.pow_succ] at h
    by_cases h1 : l.length ≤ 1
    · rw [pathT_one h1]; simp
    · by_cases hi : i < halfN l.length
      · rw [pathT_r (by omega) hi, List.length_cons]
        have := path_log k (l.take (halfN l.length)) i (by rw [List.length_take]; unfold halfN; omega)
        omega
      · rw [pathT_l (by omega) hi, List.length_cons]
        have := path_log k (l.drop (halfN l.length)) (i - halfN l.length) (by rw [List.length_drop]; unfold halfN; omega)
        omega
theorem proves_ok {l : List LMark} (h : okM l = true) {i : Nat} (hi : i < l.length) : provesB (rootT l) (nthG l i) (pathT l i).reverse = true := by
  obtain ⟨h16, hv⟩ := okM_V h
  obtain ⟨h1, h2, h3, -⟩ := okV l h
  have hm := nthG_mem hi
  have hb : markB (nthG l i) = true := by
    simp only [markB, Bool.and_eq_true, decide_eq_true_eq, Bool.not_eq_true', decide_eq_false_iff_not]
    exact ⟨⟨⟨(h3 _ hm).1, by have := (h3 _ hm).2; omega⟩, (h2 _ hm).1⟩, (h2 _ hm).2⟩
  have hg := (good_root _ (Nat.lt_succ_self l.length) h16 hv).1
  have hlen := path_log 4 l i (by omega)
  have hup : upG (nthG l i) (pathT l i).reverse = some (rootT l) := by
    have h5 := path_up _ l i (Nat.lt_succ_self _) hi
    rw [upG, fold_good _ _ fun p hp => good_path _ (Nat.lt_succ_self _) h16 hv p (List.mem_reverse.1 hp)]
    exact h5
  unfold provesB
  rw [hb, good_check.2 hg, List.length_reverse, decide_eq_true (show ((pathT l i).length : Int) ≤ 8 by omega), @decide_eq_true _ (Classical.propDecidable _) hup]
  rfl
theorem proves_sound {l : List LMark} (h : okM l = true) {m : LMark} {ps : List Term} (hp : provesB (rootT l) m ps = true) : m ∈ l := by
  unfold provesB at hp
  rw [Bool.and_eq_true, Bool.and_eq_true, Bool.and_eq_true] at hp
  obtain ⟨⟨⟨a1, -⟩, -⟩, a4⟩ := hp
  have a5 : upG m ps = some (rootT l) := @of_decide_eq_true _ (Classical.propDecidable _) a4
  simp only [markB, Bool.and_eq_true, decide_eq_true_eq] at a1
  exact sound_up _ ps m l (Nat.lt_succ_self _) ⟨a1.1.2, a1.2⟩ (okM_V h).2.1 (fold_GT _ _ _ a5)
end Go.Proofs.YtieeoakdkbackaaDoor

/- Layer 14: few, Same; marks compared. -/
namespace Go.Proofs.YtieeoakdkbackaaDoor
open Go Go.Wk
set_option synthInstance.maxSize 100000
set_option synthInstance.maxHeartbeats 400000
set_option maxRecDepth 100000

deriving instance DecidableEq for LMark
theorem eq_mark (m n : LMark) (w : World) : (Go.Op.equalIn 10000 51 (.agg ⟨[str m.key, .int .i64 m.ver]⟩) (.agg ⟨[str n.key, .int .i64 n.ver]⟩)).run Tryd.prog w = .ok (decide (m = n)) w := by
  have u3 := Tryd.underlying3
  have a3 := Tryd.isAgg3
  have z3 := Tryd.sizeOf3
  have u9 := Tryd.underlying9
  have a9 := Tryd.isAgg9
  have z9 := Tryd.sizeOf9
  have hS : Tryd.prog.underlying 51 = some (.struct (Tryd.prog.fieldsOf 51)) := by kernel_rfl
  have hp : Tryd.prog.stoodInHeld 51 = false := by kernel_rfl
  obtain ⟨a, x⟩ := m
  obtain ⟨b, y⟩ := n
  rw [show (10000 : Nat) = 9999 + 1 from rfl, run_equalIn_agg w 9999 51 _ _ hS hp]
  simp only [Program.fieldsOf, Tryd.underlying51]
  go_simp
  by_cases h1 : a = b <;> by_cases h2 : x = y <;> simp [h1, h2]
theorem guard_mark : Tryd.prog.eqGuardType Tryd.prog.depth 51 = false := by kernel_rfl
section
variable {l : Cx} {bs : List Wk.Item} {fs : List (World → Prop)} {x y : Operand} {m n : LMark} {t' ty : TypeId}
instance opEqMark [Ev l x (.agg ⟨[str m.key, .int .i64 m.ver]⟩)] [Ev l y (.agg ⟨[str n.key, .int .i64 n.ver]⟩)] : OpQ Tryd.prog (.binOp .eql 51 x y t') ty l bs fs (.bool (decide (m = n))) := ⟨fun ρ w h _ => by
  simp [xop, execOp, h.ev (x := x) (v := .agg ⟨[str m.key, .int .i64 m.ver]⟩), h.ev (x := y) (v := .agg ⟨[str n.key, .int .i64 n.ver]⟩), Sem.run_bind, run_eqGuard_agg w .eql 51 x y _ _ guard_mark, run_eql_struct, eq_mark]⟩
instance opNeMark [Ev l x (.agg ⟨[str m.key, .int .i64 m.ver]⟩)] [Ev l y (.agg ⟨[str n.key, .int .i64 n.ver]⟩)] : OpQ Tryd.prog (.binOp .neq 51 x y t') ty l bs fs (.bool (!decide (m = n))) := ⟨fun ρ w h _ => by
  simp [xop, execOp, h.ev (x := x) (v := .agg ⟨[str m.key, .int .i64 m.ver]⟩), h.ev (x := y) (v := .agg ⟨[str n.key, .int .i64 n.ver]⟩), Sem.run_bind, run_eqGuard_agg w .neq 51 x y _ _ guard_mark, run_neq_struct, eq_mark]⟩
end
theorem equalm_c (xs ys : List LMark) (p q : Option Addr) (c e : Nat) (w0 : World) (hl : xs.length ≤ 1000000000) (hx : Stable (fun _ => False) w0 (GlF p xs)) (hy : Stable (fun _ => False) w0 (GlF q ys)) :
    Ret Tryd.prog 24 [.slice p xs.length c, .slice q ys.length e] w0 (fun _ => False) fun v _ => v = .bool (decide (xs = ys)) := by
  refine enter Tryd.func24 rfl rfl (Wd.begin (fs := [GlF p xs, GlF q ys]) (by simp; exact ⟨hx, hy⟩)) (fun a S => ?_)
  simp only [Tryd.ntmps24, List.length_cons, List.length_nil, Nat.reduceAdd, Nat.reduceSub, List.replicate_succ, List.replicate_zero, List.cons_append, List.nil_append] at S
  refine c_seq ?_
  refine c_region ?_
  refine sq S ?_; clear S; intro a S
  refine wl_nil ?_
  refine xtn ?_
  iterate 2 (refine c_seq ?_)
  refine c_region ?_
  iterate 5 (refine sq S ?_; clear S; intro a S)
  refine wl_nil ?_
  refine xtn ?_
  refine c_cond S (fun h1 => ?_) (fun h1 => ?_)
  · refine c_seq ?_
    refine c_region ?_
    refine sq S ?_; clear S; intro a S
    refine wl_nil ?_
    refine xtn ?_
    refine c_ret ?_
    refine xtr ?_
    have hne : xs ≠ ys := fun h => by rw [h] at h1; simp at h1
    refine end1 S (fun _ => ?_)
    rw [decide_eq_false hne]
  · refine c_skip ?_
    refine xtn ?_
    iterate 2 (refine c_seq ?_)
    refine c_region ?_
    iterate 3 (refine sq S ?_; clear S; intro a S)
    refine wl_nil ?_
    refine xtn ?_
    refine c_block ?_
    have hle : xs.length = ys.length := by simp at h1; omega
    refine c_forb1 S (fun (k : Nat) uu => [(4, uu 4), (0, uu 5), (7, .int .i64 (k : Nat)), (0, uu 14), (0, uu 15), (0, uu 16), (0, uu 17), (0, uu 18), (0, uu 19), (0, uu 20), (0, uu 21), (0, uu 22), (0, uu 23), (0, uu 24), (0, uu 25)]) (fun (k : Nat) => k ≤ xs.length ∧ xs.take k = ys.take k) (fun (k : Nat) => xs.length - k) (0) ?_ S.uu ?_ ?_
    · exact ⟨Nat.zero_le _, rfl⟩
    · first | exact S | exact S.sub _ _
    · clear S; rintro k uu a w ⟨hk, hrel⟩ S
      refine c_seq ?_
      refine c_region ?_
      refine sq S ?_; clear S; intro a S
      refine wl_nil ?_
      refine xtn ?_
      refine c_seq ?_
      refine c_cond S (fun h4 => ?_) (fun h4 => ?_)
      · refine c_skip ?_
        refine xtn ?_
        refine c_seq ?_
        refine c_block ?_
        refine c_seq ?_
        have hkl : k < xs.length := by simpa using h4
        have hK1 : KLt k xs.length := ⟨hkl⟩
        have hK2 : KLt k ys.length := ⟨by omega⟩
        refine c_region ?_
        iterate 2 (refine sq S ?_; clear S; intro a S)
        refine wl_nil ?_
        refine xtn ?_
        refine c_seq ?_
        refine c_drawD [(0, true), (1, true), (2, true), (3, true), (4, true), (5, true), (6, true), (7, true), (8, true)] [] S ?_; clear S; intro w S
        iterate 9 (refine dq S ?_; clear S; intro a S)
        refine dn ?_
        refine xtn ?_
        refine c_cond S (fun h6 => ?_) (fun h6 => ?_)
        · refine c_seq ?_
          refine c_region ?_
          refine sq S ?_; clear S; intro a S
          refine wl_nil ?_
          refine xtn ?_
          refine c_ret ?_
          refine xbr ?_
          iterate 2 (refine xtr ?_)
          refine xbr ?_
          refine xtr ?_
          have h9 : nthG xs k ≠ nthG ys k := by simpa using h6
          have hne : xs ≠ ys := fun h => h9 (by rw [h])
          refine end1 S (fun _ => ?_)
          rw [decide_eq_false hne]
        · refine c_skip ?_
          refine xbn ?_
          refine xtn ?_
          refine c_region ?_
          iterate 2 (refine sq S ?_; clear S; intro a S)
          refine wl_nil ?_
          refine xtn ?_
          have h9 : nthG xs k = nthG ys k := by simpa using h6
          rw [w64 ((k : Int) + 1) (by omega) (by omega)] at S
          exact ⟨k + 1, S.uu, ⟨hkl, by rw [nthG_take hkl, nthG_take (show k < ys.length by omega), hrel, h9]⟩, S.sub _ _, by omega⟩
      · refine c_exit ?_
        iterate 2 (refine xte ?_)
        refine xbe ?_
        refine xtn ?_
        refine c_seq ?_
        refine c_region ?_
        refine sq S ?_; clear S; intro a S
        refine wl_nil ?_
        refine xtn ?_
        refine c_ret ?_
        have h9 : xs.length ≤ k := by simpa using h4
        rw [List.take_of_length_le h9, List.take_of_length_le (by omega)] at hrel
        refine end1 S (fun _ => ?_)
        rw [decide_eq_true hrel]
theorem same14_c (xs ys : List LMark) (p q : Option Addr) (c e : Nat) (w0 : World) (hl : xs.length ≤ 1000000000) (hx : Stable (fun _ => False) w0 (GlF p xs)) (hy : Stable (fun _ => False) w0 (GlF q ys)) :
    Ret Tryd.prog 31 [.slice p xs.length c, .slice q ys.length e] w0 (fun _ => False) fun v _ => v = .bool (decide (xs = ys)) := by
  refine enter Tryd.func31 rfl rfl (Wd.begin (fs := [GlF p xs, GlF q ys]) (by simp; exact ⟨hx, hy⟩)) (fun a S => ?_)
  simp only [Tryd.ntmps31, List.length_cons, List.length_nil, Nat.reduceAdd, Nat.reduceSub, List.replicate_succ, List.replicate_zero, List.cons_append, List.nil_append] at S
  refine c_seq ?_
  refine c_region ?_
  refine sq S ?_; clear S; intro a S
  refine wl_nil ?_
  refine xtn ?_
  iterate 2 (refine c_seq ?_)
  refine c_region ?_
  iterate 5 (refine sq S ?_; clear S; intro a S)
  refine wl_nil ?_
  refine xtn ?_
  refine c_cond S (fun h1 => ?_) (fun h1 => ?_)
  · refine c_seq ?_
    refine c_region ?_
    refine sq S ?_; clear S; intro a S
    refine wl_nil ?_
    refine xtn ?_
    refine c_ret ?_
    refine xtr ?_
    have hne : xs ≠ ys := fun h => by rw [h] at h1; simp at h1
    refine end1 S (fun _ => ?_)
    rw [decide_eq_false hne]
  · refine c_skip ?_
    refine xtn ?_
    iterate 2 (refine c_seq ?_)
    refine c_region ?_
    iterate 3 (refine sq S ?_; clear S; intro a S)
    refine wl_nil ?_
    refine xtn ?_
    refine c_block ?_
    have hle : xs.length = ys.length := by simp at h1; omega
    refine c_forb1 S (fun (k : Nat) uu => [(4, uu 4), (0, uu 5), (7, .int .i64 (k : Nat)), (0, uu 14), (0, uu 15), (0, uu 16), (0, uu 17), (0, uu 18), (0, uu 19), (0, uu 20), (0, uu 21), (0, uu 22), (0, uu 23), (0, uu 24), (0, uu 25)]) (fun (k : Nat) => k ≤ xs.length ∧ xs.take k = ys.take k) (fun (k : Nat) => xs.length - k) (0) ?_ S.uu ?_ ?_
    · exact ⟨Nat.zero_le _, rfl⟩
    · first | exact S | exact S.sub _ _
    · clear S; rintro k uu a w ⟨hk, hrel⟩ S
      refine c_seq ?_
      refine c_region ?_
      refine sq S ?_; clear S; intro a S
      refine wl_nil ?_
      refine xtn ?_
      refine c_seq ?_
      refine c_cond S (fun h4 => ?_) (fun h4 => ?_)
      · refine c_skip ?_
        refine xtn ?_
        refine c_seq ?_
        refine c_block ?_
        refine c_seq ?_
        have hkl : k < xs.length := by simp at h4; omega
        have hK1 : KLt k xs.length := ⟨hkl⟩
        have hK2 : KLt k ys.length := ⟨by omega⟩
        refine c_region ?_
        iterate 2 (refine sq S ?_; clear S; intro a S)
        refine wl_nil ?_
        refine xtn ?_
        refine c_seq ?_
        refine c_drawD [(0, true), (1, true), (2, true), (3, true), (4, true), (5, true), (6, true), (7, true), (8, true)] [] S ?_; clear S; intro w S
        iterate 9 (refine dq S ?_; clear S; intro a S)
        refine dn ?_
        refine xtn ?_
        refine c_cond S (fun h6 => ?_) (fun h6 => ?_)
        · refine c_seq ?_
          refine c_region ?_
          refine sq S ?_; clear S; intro a S
          refine wl_nil ?_
          refine xtn ?_
          refine c_ret ?_
          refine xbr ?_
          iterate 2 (refine xtr ?_)
          refine xbr ?_
          refine xtr ?_
          have h9 : nthG xs k ≠ nthG ys k := by simpa using h6
          have hne : xs ≠ ys := fun h => h9 (by rw [h])
          refine end1 S (fun _ => ?_)
          rw [decide_eq_false hne]
        · refine c_skip ?_
          refine xbn ?_
          refine xtn ?_
          refine c_region ?_
          iterate 2 (refine sq S ?_; clear S; intro a S)
          refine wl_nil ?_
          refine xtn ?_
          have h9 : nthG xs k = nthG ys k := by simpa using h6
          rw [w64 ((k : Int) + 1) (by omega) (by omega)] at S
          exact ⟨k + 1, S.uu, ⟨hkl, by rw [nthG_take hkl, nthG_take (show k < ys.length by omega), hrel, h9]⟩, S.sub _ _, by omega⟩
      · refine c_exit ?_
        iterate 2 (refine xte ?_)
        refine xbe ?_
        refine xtn ?_
        refine c_seq ?_
        refine c_region ?_
        refine sq S ?_; clear S; intro a S
        refine wl_nil ?_
        refine xtn ?_
        refine c_ret ?_
        have h9 : xs.length ≤ k := by simp at h4; omega
        rw [List.take_of_length_le h9, List.take_of_length_le (by omega)] at hrel
        refine end1 S (fun _ => ?_)
        rw [decide_eq_true hrel]
def fewL : List LMark := [⟨[97], 1⟩, ⟨[98], 2⟩, ⟨[99], 3⟩]
theorem few_c (M : Nat → Prop) (w0 : World) (hM : ∀ k, M k → k < w0.heap.size) : Ret Tryd.prog 65 [] w0 (fun _ => False) fun v w' => ∃ p c, v = .slice p 3 c ∧ 3 ≤ c ∧ Stable M w' (GlF p fewL) := by
  refine enter Tryd.func65 rfl rfl (Wd.beginM (M := M) (fs := []) hM nofun) (fun a S => ?_)
  simp only [Tryd.ntmps65, List.length_cons, List.length_nil, Nat.reduceAdd, Nat.reduceSub, List.replicate_succ, List.replicate_zero, List.cons_append, List.nil_append] at S
  refine c_seq ?_
  refine c_region ?_
  refine sq S ?_; clear S; intro a S
  refine wl_nil ?_
  refine xtn ?_
  refine c_seq ?_
  refine c_region ?_
  iterate 3 (refine sq S ?_; clear S; intro a S)
  refine sn S ?_; clear S; intro b4 a w S
  refine sq S ?_; clear S; intro a S
  refine wl_nil ?_
  refine xtn ?_
  refine c_ret ?_
  replace S := S.boxRow b4 2 3 rfl (by simp [maxLen])
  rw [show ([str [97], .int .i64 1, str [98], .int .i64 2, str [99], .int .i64 3] : List Value) = encL fewL from rfl] at S
  have hrow := S.row (some ⟨b4, 0, none⟩) 3
  have hnew := S.rowNew (some ⟨b4, 0, none⟩) 3
  refine end1 S (fun _ => ?_)
  exact ⟨_, 3, rfl, Nat.le_refl _, gl_own hrow (fun _ _ _ _ => trivial) (fun ad h hm => (hnew ad h).elim (fun h => h.elim) (fun h2 => by have := hM _ hm; omega))⟩
def shortM (m : LMark) : LMark := ⟨m.key.take 65, m.ver⟩
def shortL (l : List LMark) : List LMark := (l.take 17).map shortM
theorem short_c (l : List LMark) (p : Option Addr) (c : Nat) (M : Nat → Prop) (w0 : World) (hl : l.length ≤ 9223372036854775807) (hM : ∀ k, M k → k < w0.heap.size) (hx : Stable M w0 (GlF p l)) :
    Ret Tryd.prog 26 [.slice p l.length c] w0 (fun _ => False) fun v w' => ∃ p' c', v = .slice p' (shortL l).length c' ∧ (shortL l).length ≤ c' ∧ Stable M w' (GlF p' (shortL l)) := by
  refine enter Tryd.func26 rfl rfl (Wd.beginM (M := M) (fs := [GlF p l]) hM (by simpa using hx)) (fun a S => ?_)
  simp only [Tryd.ntmps26, List.length_cons, List.length_nil, Nat.reduceAdd, Nat.reduceSub, List.replicate_succ, List.replicate_zero, List.cons_append, List.nil_append] at S
  refine c_seq ?_
  refine c_region ?_
  refine sq S ?_; clear S; intro a S
  refine wl_nil ?_
  refine xtn ?_
  refine c_seq ?_
  refine c_region ?_
  refine sq S ?_; clear S; intro a S
  refine wl_nil ?_
  refine xtn ?_
  iterate 2 (refine c_seq ?_)
  refine c_region ?_
  iterate 3 (refine sq S ?_; clear S; intro a S)
  refine wl_nil ?_
  refine xtn ?_
  refine c_block ?_
  replace S := S.addNil 51 2
  refine c_fore3 S (fun (k : Nat) (po : Option Addr) (co : Nat) uu => [(3, .slice po k co), (0, uu 4), (0, uu 5), (2, .int .i64 (k : Nat)), (0, uu 9), (0, uu 10), (0, uu 11), (0, uu 12), (0, uu 13), (0, uu 14), (0, uu 15), (0, uu 16), (0, uu 17), (0, uu 18), (0, uu 19), (0, uu 20), (0, uu 21), (0, uu 22), (0, uu 23), (0, uu 24), (0, uu 25), (0, uu 26), (0, uu 27)]) (fun (k : Nat) (po : Option Addr) (co : Nat) => [Wk.row 51 2 po k co (encL ((l.take k).map shortM)), ext M]) (fun (k : Nat) (po : Option Addr) (co : Nat) => [GlF p l]) (fun (k : Nat) (po : Option Addr) (co : Nat) => k ≤ l.length ∧ k ≤ 17) (fun (k : Nat) (po : Option Addr) (co : Nat) => l.length - k) (0) (none) (0) ?_ S.uu ?_ ?_
  · exact ⟨Nat.zero_le _, Nat.zero_le _⟩
  · first | exact S | exact S.sub _ _
  · clear S; rintro k po co uu a w ⟨hk, hk17⟩ S
    refine c_seq ?_
    refine c_region ?_
    refine sq S ?_; clear S; intro a S
    refine wl_nil ?_
    refine xtn ?_
    refine c_seq ?_
    refine c_cond S (fun h3 => ?_) (fun h3 => ?_)
    · refine c_skip ?_
      refine xtn ?_
      refine c_seq ?_
      refine c_block ?_
      refine c_seq ?_
      have hkl2 : k < l.length := by simp at h3; omega
      have hK : KLt k l.length := ⟨hkl2⟩
      refine c_region ?_
      iterate 3 (refine sq S ?_; clear S; intro a S)
      refine sa S ?_; clear S; intro b5 a w S
      refine sq S ?_; clear S; intro a S
      refine sw S ?_; clear S; intro a w S
      refine wl_nil ?_
      refine xtn ?_
      iterate 2 (refine c_seq ?_)
      refine c_region ?_
      iterate 2 (refine sq S ?_; clear S; intro a S)
      refine wl_nil ?_
      refine xtn ?_
      refine c_cond S (fun h5 => ?_) (fun h5 => ?_)
      · refine c_exit ?_
        refine xte ?_
        refine xbx ?_
        iterate 2 (refine xte ?_)
        refine xbe ?_
        refine xtn ?_
        refine c_seq ?_
        refine c_region ?_
        iterate 2 (refine sq S ?_; clear S; intro a S)
        refine wl_nil ?_
        refine xtn ?_
        refine c_ret ?_
        have hk17' : k = 17 := by simp at h5; omega
        have hlen : (shortL l).length = k := by simp [shortL]; omega
        have hrow := S.row po k
        have hnew := S.rowNew po k
        rw [hk17', show (l.take 17).map shortM = shortL l from rfl, ← hk17'] at hrow
        refine end1 S (fun _ => ?_)
        refine ⟨po, co, by rw [hlen], by rw [hlen]; exact own_le hrow, ?_⟩
        exact gl_own hrow (fun _ _ _ _ => trivial) (fun ad h hm => (hnew ad h).elim (fun h => h.elim) (fun h2 => by have := hM _ hm; omega))
      · refine c_skip ?_
        refine xtn ?_
        refine c_seq ?_
        refine c_region ?_
        iterate 7 (refine sq S ?_; clear S; intro a S)
        rw [show ((nthG l k).key.take (min (nthG l k).key.length 65)).drop 0 = (shortM (nthG l k)).key from by rw [List.drop_zero, shortM]; rw [Nat.min_def]; split <;> simp_all [List.take_of_length_le]] at S
        refine sq S ?_; clear S; intro a S
        refine sw S ?_; clear S; intro a w S
        refine wl_nil ?_
        refine xtn ?_
        refine c_region ?_
        iterate 2 (refine sq S ?_; clear S; intro a S)
        refine sn S ?_; clear S; intro b25 a w S
        refine sap S (by simp [maxLen]; omega) (by omega) ?_; clear S; rintro p7 c7 a w - S
        rw [show encL ((l.take k).map shortM) ++ [str (shortM (nthG l k)).key, .int .i64 (nthG l k).ver] = encL ((l.take (k + 1)).map shortM) from by rw [nthG_take hkl2, List.map_append, encL_append]; rfl] at S
        refine sq S ?_; clear S; intro a S
        refine wl_nil ?_
        refine xbn ?_
        refine xtn ?_
        refine c_region ?_
        iterate 2 (refine sq S ?_; clear S; intro a S)
        refine wl_nil ?_
        refine xtn ?_
        rw [w64 ((k : Int) + 1) (by omega) (by omega)] at S
        exact ⟨k + 1, p7, c7, S.uu, ⟨hkl2, by simp at h5; omega⟩, S.sub _ _, by omega⟩
    · refine c_exit ?_
      iterate 2 (refine xte ?_)
      refine xbe ?_
      refine xtn ?_
      refine c_seq ?_
      refine c_region ?_
      iterate 2 (refine sq S ?_; clear S; intro a S)
      refine wl_nil ?_
      refine xtn ?_
      refine c_ret ?_
      have hke : k = l.length := by simp at h3; omega
      have hlen : (shortL l).length = k := by simp [shortL]; omega
      have hrow := S.row po k
      have hnew := S.rowNew po k
      rw [show (l.take k).map shortM = shortL l from by rw [shortL, List.take_of_length_le (by omega), List.take_of_length_le (by omega)]] at hrow
      refine end1 S (fun _ => ?_)
      refine ⟨po, co, by rw [hlen], by rw [hlen]; exact own_le hrow, ?_⟩
      exact gl_own hrow (fun _ _ _ _ => trivial) (fun ad h hm => (hnew ad h).elim (fun h => h.elim) (fun h2 => by have := hM _ hm; omega))
end Go.Proofs.YtieeoakdkbackaaDoor

/- Layer 14 does something. -/
namespace Go.Proofs.YtieeoakdkbackaaDoor
open Go Go.Wk
set_option synthInstance.maxSize 100000
set_option synthInstance.maxHeartbeats 400000
set_option maxRecDepth 100000

theorem few_ok : okM fewL = true := by decide
theorem RootR.yes {M : Nat → Prop} {b : Bool} {T : Term} {v : Value} {w : World} (h : RootR M b T v w) (hb : b = true) : ∃ r : LTerm, v = .tuple ⟨[vL r, .int .i64 0]⟩ ∧ r.t = T ∧ Stable M w (LtF r) := by
  obtain ⟨r, e, rfl, h1, h2, -⟩ := h
  obtain ⟨rfl, h3⟩ := h2 hb
  exact ⟨r, rfl, h3, h1⟩
theorem wakes14_c (w0 : World) (ht : Stable (fun _ => False) w0 LibF) : Ret Tryd.prog 25 [] w0 (fun _ => False) fun v _ => v = .bool true := by
  obtain ⟨f16, fV⟩ := okM_V few_ok
  refine enter Tryd.func25 rfl rfl (Wd.begin (fs := [TabF, LibF]) (by simp; exact ⟨ht.imp fun _ h => h.1, ht⟩)) (fun a S => ?_)
  simp only [Tryd.ntmps25, List.length_cons, List.length_nil, Nat.reduceAdd, Nat.reduceSub, List.replicate_succ, List.replicate_zero, List.cons_append, List.nil_append] at S
  refine c_seq ?_
  refine c_region ?_
  refine sq S ?_; clear S; intro a S
  refine wl_nil ?_
  refine xtn ?_
  refine c_seq ?_
  refine c_region ?_
  refine sr S (few_c _ w0 (foots_lt S)) ?_; clear S; rintro _ a w ⟨p1, c1, rfl, hc1, hf1⟩ S
  replace S := S.add hf1
  refine sr S (troot_c fewL p1 c1 _ w hc1 (by decide) (foots_lt S) (S.mem.fact TabF) (S.mem.fact (GlF p1 fewL))) ?_; clear S; rintro _ a w hR S
  obtain ⟨r, rfl, hr, hrf⟩ := hR.yes few_ok
  replace S := S.add hrf
  iterate 3 (refine sq S ?_; clear S; intro a S)
  refine sa S ?_; clear S; intro b1 a w S
  refine sw S ?_; clear S; intro a w S
  refine sq S ?_; clear S; intro a S
  refine wl_nil ?_
  refine xtn ?_
  refine c_seq ?_
  refine c_region ?_
  refine sr S (few_c _ w (foots_lt S)) ?_; clear S; rintro _ a w ⟨p2, c2, rfl, hc2, hf2⟩ S
  replace S := S.add hf2
  refine sr S (tproof_c fewL p2 c2 [98] _ w hc2 (by decide) (foots_lt S) (S.mem.fact TabF) (S.mem.fact (GlF p2 fewL))) ?_; clear S; rintro _ a w ⟨pp, cp, ps, e, rfl, hps, -, -, h3⟩ S
  obtain ⟨rfl, i, hi, hik, hpath⟩ := h3 few_ok (by decide)
  replace S := S.add hps
  iterate 5 (refine sq S ?_; clear S; intro a S)
  refine wl_nil ?_
  refine xtn ?_
  refine c_seq ?_
  refine c_region ?_
  refine sr S (few_c _ w (foots_lt S)) ?_; clear S; rintro _ a w ⟨p3, c3, rfl, hc3, hf3⟩ S
  replace S := S.add hf3
  refine sr S (twrite_c fewL p3 c3 _ w (by decide) (foots_lt S) (S.mem.fact TabF) (S.mem.fact (GlF p3 fewL))) ?_; clear S; rintro _ a w hR S
  obtain ⟨t, rfl, htt, htf⟩ := hR.yes few_ok
  replace S := S.add htf
  iterate 3 (refine sq S ?_; clear S; intro a S)
  refine sa S ?_; clear S; intro b5 a w S
  refine sw S ?_; clear S; intro a w S
  refine sq S ?_; clear S; intro a S
  refine wl_nil ?_
  refine xtn ?_
  refine c_seq ?_
  refine c_region ?_
  refine sq S ?_; clear S; intro a S
  refine sr S (tread_c t _ w (foots_lt S) (S.mem.fact LibF) (S.t t)) ?_; clear S; rintro _ a w ⟨pm, cm, ms, e, rfl, hms, hcm, h1, h2⟩ S
  have he : e = 0 := by
    apply Classical.byContradiction
    intro hne
    exact (h2 hne).2.2 fewL few_ok htt (by rw [htt]; exact good_write f16 fV)
  subst he
  obtain ⟨hm1, hm2, -⟩ := h1 rfl
  have hmf : ms = fewL := write_inj (okM_V hm1).2 fV (by rw [← hm2, htt])
  subst hmf
  replace S := S.add hms
  iterate 5 (refine sq S ?_; clear S; intro a S)
  refine wl_nil ?_
  refine xtn ?_
  refine c_seq ?_
  have hK1 : KLt 1 3 := ⟨by decide⟩
  have hK2 : KLt 1 fewL.length := ⟨by decide⟩
  have hi1 : i = 1 := by
    have : i = 0 ∨ i = 1 ∨ i = 2 := by have : fewL.length = 3 := rfl; omega
    rcases this with rfl | rfl | rfl
    · simp [fewL, nthG] at hik
    · rfl
    · simp [fewL, nthG] at hik
  subst hi1
  have hpl : ps.length = 2 := by
    have := congrArg List.length hpath
    rw [List.length_map, List.length_reverse] at this
    rw [this]
    rw [pathT_r (by decide) (by decide), List.length_cons, pathT_l (by decide) (by decide), List.length_cons, pathT_one (by decide)]; rfl
  refine c_drwe0 (.q 0 (.q 1 (.q 2 (.q 3 (.q 4 (.q 5 (.q 6 (.q 7 (.q 8 (.q 9 (.q 10 (.q 11 (.q 12 (.q 13 (.q 14 (.q 15 (.q 16 (.q 17 (.q 18 (.q 19 (.q 20 (.q 24 (.l 21 (.l 22 (.l 23 (.l 25 (.q 26 (.q 27 (.q 28 (.q 29 (.q 30 (.l 31 (.q 32 (.q 33 (.q 34 (.q 35 (.l 36 (.l 37 (.q 38 (.q 39 (.e))))))))))))))))))))))))))))))))))))))))) S (fun  uu => [(0, .bool true), (28, uu 29), (0, uu 30), (0, uu 31), (0, uu 32), (0, uu 33), (0, uu 34), (0, uu 35), (0, uu 36), (0, uu 37), (0, uu 38), (0, uu 39), (0, uu 40), (0, uu 41), (0, uu 42), (0, uu 43), (0, uu 44), (0, uu 45), (0, uu 46), (0, uu 47), (0, uu 48), (0, uu 49), (0, uu 50), (0, uu 51), (0, uu 52), (0, uu 53), (0, uu 54), (0, uu 55), (0, uu 56), (0, uu 57), (0, uu 58), (0, uu 59), (0, uu 60), (0, uu 61), (0, uu 62), (0, uu 63), (0, uu 64), (0, uu 65), (0, uu 66), (0, uu 67)]) [Wk.box b5 24 t.cells, Wk.box b1 24 r.cells] ([]) ([]) (True) ?_ ?_
  · intro w S
    iterate 2 (refine tq S ?_; clear S; intro a S)
    rw [show decide ((0 : Int) = 0) = true from rfl] at S
    refine tq S ?_; clear S; intro a S
    iterate 2 (refine tqG S ?_; clear S; intro a S)
    rw [show decide ((0 : Int) = 0) = true from rfl] at S
    iterate 2 (refine tq S ?_; clear S; intro a S)
    iterate 2 (refine tqG S ?_; clear S; intro a S)
    rw [show decide ((0 : Int) = 0) = true from rfl] at S
    iterate 2 (refine tq S ?_; clear S; intro a S)
    iterate 2 (refine tqG S ?_; clear S; intro a S)
    rw [show decide ((0 : Int) = 0) = true from rfl] at S
    iterate 2 (refine tq S ?_; clear S; intro a S)
    iterate 3 (refine tqG S ?_; clear S; intro a S)
    rw [show decide ((ps.length : Int) = 2) = true from decide_eq_true (by omega)] at S
    iterate 2 (refine tq S ?_; clear S; intro a S)
    iterate 2 (refine tqG S ?_; clear S; intro a S)
    refine tl ?_
    refine gT S ?_
    refine sr S (few_c _ w (foots_lt S)) ?_; clear S; rintro _ a w ⟨p4, c4, rfl, hc4, hf4⟩ S
    replace S := S.add hf4
    refine te S ?_
    refine tl ?_
    refine gQ S ?_; clear S; intro a S
    refine te S ?_
    refine tl ?_
    refine gQ S ?_; clear S; intro a S
    refine te S ?_
    refine tl ?_
    refine gT S ?_
    refine sr S (proves_c r (nthG fewL 1) ps pp cp _ (by omega) (S.t0 r) (S.mem.fact0 (LsF pp 0 ps)) (S.mem.fact0 TabF)) ?_; clear S; rintro _ a w rfl S
    rw [show provesB r.t (nthG fewL 1) (ps.map LTerm.t) = true from by rw [hr, hpath]; exact proves_ok few_ok (by decide)] at S
    refine te S ?_
    iterate 2 (refine tq S ?_; clear S; intro a S)
    iterate 3 (refine tqG S ?_; clear S; intro a S)
    refine tl ?_
    refine gT S ?_
    refine sr S (proves_c r ⟨[98], 3⟩ ps pp cp _ (by omega) (S.t0 r) (S.mem.fact0 (LsF pp 0 ps)) (S.mem.fact0 TabF)) ?_; clear S; rintro _ a w rfl S
    rw [show provesB r.t ⟨[98], 3⟩ (ps.map LTerm.t) = false from by
      cases h : provesB r.t ⟨[98], 3⟩ (ps.map LTerm.t) with
      | false => rfl
      | true => rw [hr] at h; exact absurd (proves_sound few_ok h) (by decide)] at S
    refine te S ?_
    refine tqG S ?_; clear S; intro a S
    rw [show (!false) = true from rfl] at S
    iterate 2 (refine tq S ?_; clear S; intro a S)
    refine tqG S ?_; clear S; intro a S
    refine tl ?_
    refine gT S ?_
    refine sr S (few_c _ w (foots_lt S)) ?_; clear S; rintro _ a w ⟨p5, c5, rfl, hc5, hf5⟩ S
    replace S := S.add hf5
    refine te S ?_
    refine tl ?_
    refine gT S ?_
    refine sr S (same14_c fewL fewL pm p5 cm c5 _ (by decide) (S.gl0 pm) (S.gl0 p5)) ?_; clear S; rintro _ a w rfl S
    rw [show decide (fewL = fewL) = true from decide_eq_true rfl] at S
    refine te S ?_
    iterate 2 (refine tq S ?_; clear S; intro a S)
    refine tn ?_
    trace_state
    exact ⟨S.uu, trivial, S.sub _ _⟩
  clear S; rintro  uu a w hrel S
  refine xtn ?_
  refine c_ret ?_
  refine end1 S (fun _ => rfl)
end Go.Proofs.YtieeoakdkbackaaDoor

/- Terms that are signed. -/
namespace Go.Proofs.YtieeoakdkbackaaDoor
open Go Go.Wk
set_option synthInstance.maxSize 100000
set_option synthInstance.maxHeartbeats 400000
set_option maxRecDepth 100000

/-! terms that are signed -/
def signT (u n : Int) (a : Term) : Term := .mk 8 u n [] [a]
theorem good_signK {x : LTerm} (h : Good x.t) (hk : x.kind = 8) : x.kids.length = 1 ∧ x.t = signT x.user x.num (nthL x.kids 0).t ∧ (1 ≤ x.user ∧ x.user ≤ 6) ∧ (0 ≤ x.num ∧ x.num ≤ 65535) := by
  have h' := h
  rw [x.t_eq] at h
  have hp := plain_shape (goodP h)
  rw [hk] at hp
  have hq : 1 ≤ x.user ∧ x.user ≤ 6 ∧ 0 ≤ x.num ∧ x.num ≤ 65535 ∧ x.text = [] ∧ x.kids.length = 1 := by
    rcases hp with q | q | q | q | q | q | q
    all_goals first | (obtain ⟨-, q⟩ := q; simpa using q) | omega
  obtain ⟨q1, q2, q3, q4, q5, q6⟩ := hq
  refine ⟨q6, ?_, ⟨q1, q2⟩, ⟨q3, q4⟩⟩
  obtain ⟨u, hu⟩ : ∃ u, x.kids = [u] := by
    match h : x.kids, q6 with
    | [u], _ => exact ⟨u, rfl⟩
  rw [x.t_eq, hk, q5, hu]; rfl
theorem good_sign {u n : Int} {a : Term} (hu : 1 ≤ u ∧ u ≤ 6) (hn : 0 ≤ n ∧ n ≤ 65535) (ha : Good a) (hc : cnt a ≤ 1199) (h1 : dpt a ≤ 59) : Good (signT u n a) := by
  refine good_mk ?_ (by simp; exact ha) (by simp [cntL]; omega) (by simp [dptL]; omega)
  simp [plainF, show fieldsOf 8 = 14 from rfl, show hasF 14 1 = false from by decide, show hasF 14 2 = true from by decide, show hasF 14 4 = true from by decide, show kidsF 14 = 1 from by decide, knownF, hu.1, hu.2, hn.1, hn.2]
theorem sign_c (u n : Int) (x : LTerm) (M : Nat → Prop) (w0 : World) (hM : ∀ k, M k → k < w0.heap.size) (hx : Stable M w0 (LtF x)) : Ret Tryd.prog 46 [.int .i64 u, .int .i64 n, vL x] w0 (fun _ => False) fun v w' => IsT M w' v (signT u n x.t) := by
  refine enter Tryd.func46 rfl rfl (Wd.beginM (M := M) (fs := [LtF x]) hM (by simpa using hx)) (fun a S => ?_)
  simp only [Tryd.ntmps46, List.length_cons, List.length_nil, Nat.reduceAdd, Nat.reduceSub, List.replicate_succ, List.replicate_zero, List.cons_append, List.nil_append] at S
  refine c_seq ?_
  refine c_region ?_
  refine sa S ?_; clear S; intro b5 a w S
  refine sa S ?_; clear S; intro b6 a w S
  refine wl_nil ?_
  refine xtn ?_
  refine c_seq ?_
  refine c_region ?_
  refine sq S ?_; clear S; intro a S
  refine sn S ?_; clear S; intro b9 a w S
  refine sc S ?_; clear S; intro a w S
  refine sa S ?_; clear S; intro b7 a w S
  refine sw S ?_; clear S; intro a w S
  refine wl_nil ?_
  refine xtn ?_
  refine c_seq ?_
  refine c_region ?_
  iterate 3 (refine sq S ?_; clear S; intro a S)
  refine sw S ?_; clear S; intro a w S
  refine sq S ?_; clear S; intro a S
  refine sw S ?_; clear S; intro a w S
  refine wl_nil ?_
  refine xtn ?_
  refine c_seq ?_
  refine c_region ?_
  refine sq S ?_; clear S; intro a S
  refine sw S ?_; clear S; intro a w S
  refine wl_nil ?_
  refine xtn ?_
  refine c_ret ?_
  refine end1 S (fun _ => ?_)
  refine ⟨.mk 8 u n [] (some ⟨b9, 0, none⟩) 1 [x], rfl, rfl, fun w' hw' => ?_⟩
  have h1 := S.laterFact (Φ := LtF x) (by simp) w' hw'
  exact ⟨by simp, by simp [maxLen], LsIn.of_block [x] (S.laterBox hw' b9) (fun y hy => by obtain rfl := List.mem_singleton.1 hy; exact h1)⟩
theorem good_textK {x : LTerm} (h : Good x.t) (hk : x.kind = 1) : x.t = textT x.text ∧ x.text.length ≤ 64 := by
  rw [x.t_eq] at h
  have hp := plain_shape (goodP h)
  rw [hk] at hp
  have hq : x.user = 0 ∧ x.num = 0 ∧ x.text.length ≤ 64 ∧ x.kids.length = 0 := by
    rcases hp with q | q | q | q | q | q | q
    all_goals first | (obtain ⟨-, q⟩ := q; simpa using q) | omega
  have h0 : x.kids = [] := List.eq_nil_of_length_eq_zero hq.2.2.2
  refine ⟨?_, hq.2.2.1⟩
  rw [x.t_eq, hk, hq.1, hq.2.1, h0]; rfl
end Go.Proofs.YtieeoakdkbackaaDoor
